/- The document's watch: New, Put in one contract, Of. -/
import Derived.Test.YtggkhnmhhifniaaWatchRPut2
import Derived.Test.YtggkhnmhhifniaaWatchNew
import Derived.Test.YtggkhnmhhifniaaMakeRow
import Derived.Laws.Rows
namespace Go.Proofs.Ytggkhnmhhifniaa.Watch
open Go.RowKit Go.Proofs.Ytggkhnmhhifniaa.Kit Go.Proofs.Ytggkhnmhhifniaa.Blk Go.Proofs.Ytggkhnmhhifniaa.Symbol Go.Proofs.Ytggkhnmhhifniaa.Check Go.Proofs.Ytggkhnmhhifniaa.RefSymbol Go.Proofs.Ytggkhnmhhifniaa.CheckEq Go.Proofs.Ytggkhnmhhifniaa.RefCheck
attribute [local go_sem ↓] Go.wp_at_zero Go.wp_at_succ

theorem rput_any (Q M cap : Nat) (c : Cfg) (sa ta : Option Addr) (sc tc : Nat) (ks : List Kn) (seq tick : Int) (m : Msg) (w : World) (h : RW w Q M cap c sa ta sc tc ks seq tick) :
    Calls Try.prog 12 #[.pointer (some ⟨Q, 0, none⟩), .agg m.cells] w fun e w' => e = .returned (.int .i64 (rfaultF ks seq tick m)) ∧ Chg2 w.heap.size Q M w w' ∧
      (if rfaultF ks seq tick m = 0 then RW w' Q M cap c sa ta sc tc (tellAll c.syms ks m) m.seq m.tick else RW w' Q M cap c sa ta sc tc ks seq tick) := by
  have key : ∀ (r : List Kn), rfaultF ks seq tick m = 0 → Calls Try.prog 12 #[.pointer (some ⟨Q, 0, none⟩), .agg m.cells] w (fun e w' => e = .returned (.int .i64 0) ∧ Chg2 w.heap.size Q M w w' ∧ RW w' Q M cap c sa ta sc tc r m.seq m.tick) →
      r = tellAll c.syms ks m → Calls Try.prog 12 #[.pointer (some ⟨Q, 0, none⟩), .agg m.cells] w fun e w' => e = .returned (.int .i64 (rfaultF ks seq tick m)) ∧ Chg2 w.heap.size Q M w w' ∧
      (if rfaultF ks seq tick m = 0 then RW w' Q M cap c sa ta sc tc (tellAll c.syms ks m) m.seq m.tick else RW w' Q M cap c sa ta sc tc ks seq tick) := fun r h0 hc hr =>
    hc.mono fun e w' ⟨he, h1, h2⟩ => ⟨by rw [he, h0], h1, by rw [if_pos h0, ← hr]; exact h2⟩
  by_cases h0 : rfaultF ks seq tick m = 0
  · by_cases h9 : m.kind = 9
    · by_cases hc : m.code = 1 ∨ m.code = 2
      · exact key _ h0 (rput_level Q M cap c sa ta sc tc ks seq tick m w h h0 h9 hc) (by rw [tell_level _ _ _ h9, level_yes _ _ hc])
      · exact key _ h0 (rput_rest Q M cap c sa ta sc tc ks seq tick m w h h0 (.inr h9) (fun _ => hc)) (by rw [tell_level _ _ _ h9, level_no _ _ hc])
    · by_cases h2 : m.kind = 2
      · exact key _ h0 (rput_rest Q M cap c sa ta sc tc ks seq tick m w h h0 (.inl h2) (fun h => absurd h h9)) (by rw [tell_two _ _ _ h2])
      · rcases rfault_zero ks seq tick m h0 with hb | ⟨i, hi, hs, hcd⟩
        · omega
        · exact key _ h0 (rput_own Q M cap c sa ta sc tc ks seq tick m w h h0 h9 h2 i hi hs hcd) (by rw [tell_own _ _ _ h9 i hi hs])
  · refine (rput_no Q M cap c sa ta sc tc ks seq tick m w h h0).mono fun e w' ⟨he, h1, h2⟩ => ⟨he, h1, by rw [if_neg h0]; exact h2⟩

theorem knF_nat (ks : List Kn) (i : Nat) (h : i < ks.length) : knF ks (i : Int) = ks.getD i Kn.zero := knF_some _ _ i (ofF_nat _ _ h)
theorem knF_out (ks : List Kn) (s : Int) (h : s < 0 ∨ (ks.length : Int) ≤ s) : knF ks s = Kn.zero := knF_none _ _ (ofF_none _ _ h)

set_option maxRecDepth 20000 in
set_option maxHeartbeats 1000000 in
theorem rof_any (Q M cap : Nat) (c : Cfg) (sa ta : Option Addr) (sc tc : Nat) (ks : List Kn) (seq tick sym : Int) (w : World) (h : RW w Q M cap c sa ta sc tc ks seq tick) :
    Calls Try.prog 13 #[.pointer (some ⟨Q, 0, none⟩), .int .i64 sym] w fun e w' => e = .returned (.agg (knF ks sym).cells) ∧ Below w.heap.size w w' := by
  have q8 : w.cell? ⟨Q, 8, none⟩ = some (.slice (some ⟨M, 0, none⟩) ks.length cap) := h.head.cell 8 rfl
  have hQ := h.head.lt
  have hM := h.lt
  have hfew := h.few
  have HR := Lib.hid h.row
  clear h
  by_cases h0 : sym < 0
  · have HK := Lib.hid (knF_out ks sym (.inl h0))
    go_enter Try.func13, Try.ntmps13
    go_wp2
    refine bodyPost_ret (results_cell_row rfl _ _ _ _ _ (0, 0) _ rfl (Blk.new w Kn.zero.cells 48 _ rfl) Try.underlying48 rfl (by kernel_rfl)) rfl ?_
    exact ⟨by rw [HK.out], ((Below.refl _ _).alloc (Nat.le_refl _) _)⟩
  · obtain ⟨i, rfl⟩ := Int.eq_ofNat_of_zero_le (show 0 ≤ sym by omega)
    by_cases h1 : i < ks.length
    · have hrow := HR.out i h1
      have HK := Lib.hid (knF_nat ks i h1)
      generalize ks.getD i Kn.zero = k at HK hrow
      have k_phase : w.cell? ⟨M, i * 10, none⟩ = some (.int .i64 k.phase) := hrow 0 _ rfl
      have k_blo : w.cell? ⟨M, i * 10 + 1, none⟩ = some (.int .i64 k.blo) := hrow 1 _ rfl
      have k_bhi : w.cell? ⟨M, i * 10 + 2, none⟩ = some (.int .i64 k.bhi) := hrow 2 _ rfl
      have k_clo : w.cell? ⟨M, i * 10 + 3, none⟩ = some (.int .i64 k.clo) := hrow 3 _ rfl
      have k_chi : w.cell? ⟨M, i * 10 + 4, none⟩ = some (.int .i64 k.chi) := hrow 4 _ rfl
      have k_deadline : w.cell? ⟨M, i * 10 + 5, none⟩ = some (.int .i64 k.deadline) := hrow 5 _ rfl
      have k_t0 : w.cell? ⟨M, i * 10 + 6, none⟩ = some (.int .i64 k.t0) := hrow 6 _ rfl
      have k_t1 : w.cell? ⟨M, i * 10 + 7, none⟩ = some (.int .i64 k.t1) := hrow 7 _ rfl
      have k_t2 : w.cell? ⟨M, i * 10 + 8, none⟩ = some (.int .i64 k.t2) := hrow 8 _ rfl
      have k_t3 : w.cell? ⟨M, i * 10 + 9, none⟩ = some (.int .i64 k.t3) := hrow 9 _ rfl
      have g0 : (0 : Int) ≤ (i : Int) := by omega
      have g1 : (i : Int) < (ks.length : Int) := by omega
      clear hrow
      go_enter Try.func13, Try.ntmps13
      go_wp2
      refine bodyPost_ret (results_cell_row rfl _ _ _ _ _ (0, 0) _ rfl (Blk.new w k.cells 48 _ rfl) Try.underlying48 rfl (by kernel_rfl)) rfl ?_
      exact ⟨by rw [HK.out], ((Below.refl _ _).alloc (Nat.le_refl _) _)⟩
    · have HK := Lib.hid (knF_out ks i (.inr (by omega)))
      have g0 : (0 : Int) ≤ (i : Int) := by omega
      have g1 : (ks.length : Int) ≤ (i : Int) := by omega
      go_enter Try.func13, Try.ntmps13
      go_wp2
      refine bodyPost_ret (results_cell_row rfl _ _ _ _ _ (0, 0) _ rfl (Blk.new w Kn.zero.cells 48 _ rfl) Try.underlying48 rfl (by kernel_rfl)) rfl ?_
      exact ⟨by rw [HK.out], ((Below.refl _ _).alloc (Nat.le_refl _) _)⟩

def RMade (c : Cfg) (sa ta : Option Addr) (sc tc : Nat) (w w' : World) (e : Ending) : Prop :=
  ((checkF c).1 = 0 ∧ ∃ Q M cap, e = .returned (.tuple #[.pointer (some ⟨Q, 0, none⟩), .int .i64 0]) ∧ w.heap.size ≤ Q ∧ w.heap.size ≤ M ∧ RW w' Q M cap c sa ta sc tc (c.syms.map fun _ => Kn.zero) 0 0) ∨
  ((checkF c).1 ≠ 0 ∧ e = .returned (.tuple #[.pointer none, .int .i64 (checkF c).1]))

theorem knownInfo : (Try.prog.info? 48).map (fun i => (i.zero, i.size, i.bytes)) = some (some (.agg Kn.zero.cells), 10, 80) := by kernel_rfl

theorem rw_made (c : Cfg) (sa ta : Option Addr) (sc tc : Nat) (w1 : World) (hin : c.In w1 sa ta) (hn : c.syms.length ≤ 8) (hsa : ∀ b off, sa = some ⟨b, off, none⟩ → b < w1.heap.size) :
    RW (((w1.alloc (.cells (madeCells Kn.zero.cells (c.syms.length * 10)) 48)).alloc (.cells (rhead c sa ta sc tc w1.heap.size c.syms.length c.syms.length 0 0) 43)).drew) (w1.heap.size + 1) w1.heap.size c.syms.length c sa ta sc tc (c.syms.map fun _ => Kn.zero) 0 0 := by
  have hb : Below w1.heap.size w1 (((w1.alloc (.cells (madeCells Kn.zero.cells (c.syms.length * 10)) 48)).alloc (.cells (rhead c sa ta sc tc w1.heap.size c.syms.length c.syms.length 0 0) 43)).drew) :=
    (((Below.refl _ _).alloc (Nat.le_refl _) _).alloc (by simp) _).drew
  have hM := (Blk.new w1 (madeCells Kn.zero.cells (c.syms.length * 10)) 48 w1.heap.size rfl).old (.cells (rhead c sa ta sc tc w1.heap.size c.syms.length c.syms.length 0 0) 43)
  refine ⟨?_, ?_, fun j => hM.free j, by simp, by simp, hM.lt, by simpa using hn, (hin.below hb).syms, fun b off e => ?_⟩
  · rw [List.length_map]
    exact Blk.new (w1.alloc (.cells (madeCells Kn.zero.cells (c.syms.length * 10)) 48)) _ _ _ (by simp)
  · intro i hi j v hv
    rw [List.length_map] at hi
    have e1 : (c.syms.map fun _ => Kn.zero).getD i Kn.zero = Kn.zero := by simp [List.getD, hi]
    rw [e1] at hv
    have hj : j < 10 := (Array.getElem?_eq_some_iff.1 hv).1
    exact hM.cell _ (madeCells_at Kn.zero.cells c.syms.length 10 i j v rfl hj hi hv)
  · have := hsa b off e
    omega

set_option maxRecDepth 20000 in
set_option maxHeartbeats 2000000 in
theorem rnew_any (c : Cfg) (sa ta : Option Addr) (sc tc : Nat) (w : World) (hin : c.In w sa ta) :
    Calls Try.prog 10 #[.agg (c.cells sa ta sc tc)] w fun e w' => Below w.heap.size w w' ∧ RMade c sa ta sc tc w w' e := by
  obtain ⟨i0, hi0, hz0, hz1, hz2⟩ := info_parts knownInfo
  have HIN := Lib.hid (hin.below ((Below.refl _ _).alloc (Nat.le_refl _) (.cells (c.cells sa ta sc tc) 27)))
  have HSA := Lib.hid (show ∀ b off, 0 < c.syms.length → sa = some ⟨b, off, none⟩ → b < w.heap.size from fun b off h0 e => by
    obtain ⟨b', off', e', hl, _⟩ := hin.syms 0 h0
    rw [e] at e'; injection e' with e'; injection e' with e1 _ _; omega)
  have HB := Lib.hid (show Below w.heap.size w (w.alloc (.cells (c.cells sa ta sc tc) 27)) from (Below.refl _ _).alloc (Nat.le_refl _) _)
  have HX := Lib.hid (Blk.new w (c.cells sa ta sc tc) 27 w.heap.size rfl)
  clear hin
  go_enter Try.func10, Try.ntmps10
  go_upto_region 1 with fail
  generalize w.alloc (.cells (c.cells sa ta sc tc) 27) = W at HIN HB HX ⊢
  go_wp2_with (refine load_blk rfl 27 _ rfl _ rfl _ _ HX.out _ Try.underlying27 rfl (by kernel_rfl) ?_)
  refine (check_ref c sa ta sc tc _ HIN.out).mono ?_
  rintro e w1 ⟨rfl, hb1⟩
  rw [check_eq]
  replace HIN := Lib.hid (HIN.out.below hb1)
  have HB1 := Lib.hid (HB.out.trans (hb1.mono HB.out.size))
  replace HX := Lib.hid (HX.out.below hb1 HX.out.lt)
  clear hb1
  by_cases h0 : (checkF c).1 = 0
  · have b0 : ((checkF c).1 != 0) = false := by rw [h0]; rfl
    have HC := Lib.hid h0
    clear h0
    have hn : c.syms.length ≤ 8 := (few_of c HC.out).2
    have hmk := fun W => run_make_rowN (P := Try.prog) 41 48 i0 _ Try.underlying41 hi0 hz0 .i64 .i64 c.syms.length c.syms.length (Nat.le_refl _) (by rw [hz2]; omega) (by omega) W
    rw [hz1] at hmk
    have c0 : w1.cell? ⟨w.heap.size, 0, none⟩ = some (.slice sa c.syms.length sc) := HX.out.cell 0 rfl
    have c1 : w1.cell? ⟨w.heap.size, 1, none⟩ = some (.slice ta c.tab.length tc) := HX.out.cell 1 rfl
    have c2 : w1.cell? ⟨w.heap.size, 2, none⟩ = some (.int .i64 c.index) := HX.out.cell 2 rfl
    have c3 : w1.cell? ⟨w.heap.size, 3, none⟩ = some (.int .i64 c.f0) := HX.out.cell 3 rfl
    have c4 : w1.cell? ⟨w.heap.size, 4, none⟩ = some (.int .i64 c.f1) := HX.out.cell 4 rfl
    have c5 : w1.cell? ⟨w.heap.size, 5, none⟩ = some (.int .i64 c.f2) := HX.out.cell 5 rfl
    have c6 : w1.cell? ⟨w.heap.size, 6, none⟩ = some (.int .i64 c.h0) := HX.out.cell 6 rfl
    have c7 : w1.cell? ⟨w.heap.size, 7, none⟩ = some (.int .i64 c.h1) := HX.out.cell 7 rfl
    go_wp2_with fail
    go_region_held3 (fun w' => w'.cell? ⟨w.heap.size, 0, none⟩ = some (.slice sa c.syms.length sc) ∧ w'.cell? ⟨w.heap.size, 1, none⟩ = some (.slice ta c.tab.length tc) ∧ w'.cell? ⟨w.heap.size, 2, none⟩ = some (.int .i64 c.index) ∧ w'.cell? ⟨w.heap.size, 3, none⟩ = some (.int .i64 c.f0) ∧ w'.cell? ⟨w.heap.size, 4, none⟩ = some (.int .i64 c.f1) ∧ w'.cell? ⟨w.heap.size, 5, none⟩ = some (.int .i64 c.f2) ∧ w'.cell? ⟨w.heap.size, 6, none⟩ = some (.int .i64 c.h0) ∧ w'.cell? ⟨w.heap.size, 7, none⟩ = some (.int .i64 c.h1)) (go_keep) (fail)
    rename_i hHeld
    clear hHeld
    go_wp2
    refine bodyPost_ret (results_tmp2 rfl _ _ _) rfl ?_
    have hsa : ∀ b off, sa = some ⟨b, off, none⟩ → b < w1.heap.size := fun b off e => Nat.lt_of_lt_of_le (HSA.out b off (by have := (few_of c HC.out).1; omega) e) HB1.out.size
    have hz := HB1.out.size
    exact ⟨((HB1.out.alloc HB1.out.size _).alloc (by simp; omega) _).drew, .inl ⟨HC.out, w1.heap.size + 1, w1.heap.size, c.syms.length, rfl, by omega, hz, rw_made c sa ta sc tc w1 HIN.out hn hsa⟩⟩
  · have b0 : ((checkF c).1 != 0) = true := bne_iff_ne.2 h0
    have HN : Hid (RMade c sa ta sc tc w w1 (.returned (.tuple #[.pointer none, .int .i64 (checkF c).1]))) := Lib.hid (.inr ⟨h0, rfl⟩)
    clear h0
    go_wp2
    go_ret2
    exact ⟨HB1.out, HN.out⟩
end Go.Proofs.Ytggkhnmhhifniaa.Watch
