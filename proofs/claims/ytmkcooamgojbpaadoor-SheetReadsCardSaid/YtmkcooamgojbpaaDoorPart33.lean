/- Parts of the proof: ShTake, ShReadF, ShRead1, ShReadW, ShHeadR, ShReadR, ShSame, ShReadsW. -/
import Derived.Test.YtmkcooamgojbpaaDoorPart32
import Derived.Test.YtmkcooamgojbpaaDoorPart31
import Derived.Test.YtmkcooamgojbpaaDoorPart22
import Derived.Test.YtmkcooamgojbpaaDoorPart28
import Derived.Test.YtmkcooamgojbpaaDoorPart30
import Derived.Test.YtmkcooamgojbpaaDoorPart25
import Derived.Test.YtmkcooamgojbpaaDoorPart8
import Derived.Test.YtmkcooamgojbpaaDoorPart3
import Derived.ChangeKeysEq

/- sheet.Read's closures that take a row, and a symbol. -/
namespace Go.Proofs.YtmkcooamgojbpaaDoor.Sheet
open Go.RowKit Go.Proofs.YtmkcooamgojbpaaDoor.Kit Go.Proofs.YtmkcooamgojbpaaDoor.Blk Go.Proofs.YtmkcooamgojbpaaDoor.Words Go.Proofs.YtmkcooamgojbpaaDoor.Octets Go.Proofs.YtmkcooamgojbpaaDoor.Lines Go.Proofs.YtmkcooamgojbpaaDoor.Dec Go.Proofs.YtmkcooamgojbpaaDoor.Symbol Go.Proofs.YtmkcooamgojbpaaDoor.Check
attribute [local go_sem ↓] Go.wp_at_zero Go.wp_at_succ
set_option linter.unusedVariables false

def cfgV (h : Cfg) (vs vt : Value) : Array Value := #[vs, vt, .int .i64 h.index, .int .i64 h.f0, .int .i64 h.f1, .int .i64 h.f2, .int .i64 h.h0, .int .i64 h.h1]
def rowsT (t : List (Int × Int)) : List Value := t.flatMap fun r => (rowC r).toList
def symsT (s : List Sym) : List Value := s.flatMap fun x => x.cells.toList
theorem rowsT_app (t u : List (Int × Int)) : rowsT (t ++ u) = rowsT t ++ rowsT u := by simp [rowsT]
theorem symsT_app (t u : List Sym) : symsT (t ++ u) = symsT t ++ symsT u := by simp [symsT]
theorem infoRow : (Tryd.prog.info? 24).map (fun i => (i.zero, i.size, i.bytes)) = some (some (.agg (rowC (0, 0))), 2, 16) := by kernel_rfl
theorem infoSy : (Tryd.prog.info? 29).map (fun i => (i.zero, i.size, i.bytes)) = some (some (.agg zeroSym.cells), 16, 128) := by kernel_rfl
/-- A configuration that is being read, in block C: its rows and symbols so far. -/
structure CfgA (w0 : World) (P C : Nat) (h : Cfg) (t : List (Int × Int)) (s : List Sym) (vs vt : Value) (W : World) : Prop where
  box : Blk W C (cfgV h vs vt) 53
  rs : W.ownsRow w0.heap.size 29 16 vs s.length (symsT s)
  rt : W.ownsRow w0.heap.size 24 2 vt t.length (rowsT t)
  pS : vs.ownBlock ≠ some P
  pT : vt.ownBlock ≠ some P
  ne : C ≠ P
section
variable {w0 W W' : World} {P C : Nat} {h : Cfg} {t : List (Int × Int)} {s : List Sym} {vs vt : Value}
theorem CfgA.below (k : CfgA w0 P C h t s vs vt W) (hb : Below W.heap.size W W') : CfgA w0 P C h t s vs vt W' :=
  ⟨k.box.below hb k.box.lt, grown_stay k.rs hb, grown_stay k.rt hb, k.pS, k.pT, k.ne⟩
theorem CfgA.chg (k : CfgA w0 P C h t s vs vt W) (hc : Chg W.heap.size P W W') : CfgA w0 P C h t s vs vt W' :=
  ⟨hc.blk k.box.lt k.ne k.box, k.rs.kept (row := some P) ⟨hc.os, hc.tape, hc.output, hc.size, fun j hj hne => hc.block j hj (fun e => hne (by rw [e]))⟩ (.inr k.pS),
    k.rt.kept (row := some P) ⟨hc.os, hc.tape, hc.output, hc.size, fun j hj hne => hc.block j hj (fun e => hne (by rw [e]))⟩ (.inr k.pT), k.pS, k.pT, k.ne⟩
end
theorem row_apart {W : World} {base e1 e2 z1 z2 n1 n2 : Nat} {v1 v2 : Value} {x1 x2 : List Value} (h1 : W.ownsRow base e1 z1 v1 n1 x1) (h2 : W.ownsRow base e2 z2 v2 n2 x2) (hne : e1 ≠ e2) : v1.ownBlock = none ∨ v1.ownBlock ≠ v2.ownBlock := by
  cases hv : v1.ownBlock with
  | none => exact .inl rfl
  | some j =>
    refine .inr fun e => ?_
    obtain ⟨_, c1, k1⟩ := row_from' h1 hv
    obtain ⟨_, c2, k2⟩ := row_from' h2 e.symm
    rw [k1] at k2
    injection k2 with k2
    injection k2 with _ k2 _
    exact hne k2
theorem row_blk {W : World} {base e z n B U : Nat} {v : Value} {x : List Value} {cs : Array Value} (h : W.ownsRow base e z v n x) (hb : Blk W B cs U) (hne : U ≠ e) : v.ownBlock ≠ some B := fun hv => by
  obtain ⟨_, c1, k1⟩ := row_from' h hv
  rw [show W.heap[B]? = _ from hb] at k1
  injection k1 with k1
  injection k1 with _ k1 _
  exact hne k1
/-- A row pushed. -/
theorem CfgA.pushT {w0 W W' : World} {P C g H : Nat} {h : Cfg} {t : List (Int × Int)} {s : List Sym} {vs vt vt' : Value} {r : Int × Int} (k : CfgA w0 P C h t s vs vt W) (hown : W'.ownsRow w0.heap.size 24 2 vt' (t.length + 1) (rowsT t ++ (rowC r).toList))
    (hg : W.grownBy W' vt.ownBlock) (hv' : vt'.ownBlock = some g) (hat : vt.ownBlock = some g ∨ g = H) (hP : P < H) (hC : w0.heap.size ≤ C) (hb : Below w0.heap.size w0 W) :
    CfgA w0 P C h (t ++ [r]) s vs vt' (W'.setCell ⟨C, 1, none⟩ vt') ∧ Below w0.heap.size w0 (W'.setCell ⟨C, 1, none⟩ vt') ∧ ∀ cs, Blk W P cs 128 → Blk (W'.setCell ⟨C, 1, none⟩ vt') P cs 128 := by
  have hbox : Blk W' C (cfgV h vs vt) 53 := blk_row' k.box (by decide) k.rt hg
  have hrs : W'.ownsRow w0.heap.size 29 16 vs s.length (symsT s) := k.rs.kept hg (row_apart k.rs k.rt (by decide))
  refine ⟨⟨hbox.set 1 _, hrs.kept (grown_cell W' C 1 _) (.inr (row_blk hrs hbox (by decide))), ?_, k.pS, ?_, k.ne⟩, ?_, fun cs hcs => ?_⟩
  · have := hown.kept (grown_cell W' C 1 vt') (.inr (row_blk hown hbox (by decide)))
    rw [List.length_append, rowsT_app]
    simpa [rowsT] using this
  · rw [hv']
    intro e
    injection e with e
    subst e
    rcases hat with hat | hat
    · exact k.pT hat
    · omega
  · exact (hb.grown hg hb.size (fun j e => (row_from' k.rt e).1)).setCell hC _
  · exact (blk_row' hcs (by decide) k.rt hg).apart _ _ k.ne
/-- A symbol pushed. -/
theorem CfgA.pushS {w0 W W' : World} {P C g H : Nat} {h : Cfg} {t : List (Int × Int)} {s : List Sym} {vs vt vs' : Value} {r : Sym} (k : CfgA w0 P C h t s vs vt W) (hown : W'.ownsRow w0.heap.size 29 16 vs' (s.length + 1) (symsT s ++ r.cells.toList))
    (hg : W.grownBy W' vs.ownBlock) (hv' : vs'.ownBlock = some g) (hat : vs.ownBlock = some g ∨ g = H) (hP : P < H) (hC : w0.heap.size ≤ C) (hb : Below w0.heap.size w0 W) :
    CfgA w0 P C h t (s ++ [r]) vs' vt (W'.setCell ⟨C, 0, none⟩ vs') ∧ Below w0.heap.size w0 (W'.setCell ⟨C, 0, none⟩ vs') ∧ ∀ cs, Blk W P cs 128 → Blk (W'.setCell ⟨C, 0, none⟩ vs') P cs 128 := by
  have hbox : Blk W' C (cfgV h vs vt) 53 := blk_row' k.box (by decide) k.rs hg
  have hrt : W'.ownsRow w0.heap.size 24 2 vt t.length (rowsT t) := k.rt.kept hg (row_apart k.rt k.rs (by decide))
  refine ⟨⟨hbox.set 0 _, ?_, hrt.kept (grown_cell W' C 0 _) (.inr (row_blk hrt hbox (by decide))), ?_, k.pT, k.ne⟩, ?_, fun cs hcs => ?_⟩
  · have := hown.kept (grown_cell W' C 0 vs') (.inr (row_blk hown hbox (by decide)))
    rw [List.length_append, symsT_app]
    simpa [symsT] using this
  · rw [hv']
    intro e
    injection e with e
    subst e
    rcases hat with hat | hat
    · exact k.pS hat
    · omega
  · exact (hb.grown hg hb.size (fun j e => (row_from' k.rs e).1)).setCell hC _
  · exact (blk_row' hcs (by decide) k.rs hg).apart _ _ k.ne
def JC (w0 : World) (P C : Nat) (h : Cfg) (t : List (Int × Int)) (s : List Sym) (W : World) : Prop := ∃ vs vt, CfgA w0 P C h t s vs vt W
set_option maxRecDepth 20000 in
set_option maxHeartbeats 4000000 in
theorem take2_any (line : Txt) (hl : line.length ≤ 90000) (w0 : World) (hm0 : MX w0) (P C : Nat) (h : Cfg) (t : List (Int × Int)) (s : List Sym) (w : World) (hj : JC w0 P C h t s w) (hb : Below w0.heap.size w0 w) (ht : t.length ≤ 100000) (hP : P < w.heap.size) (hC : w0.heap.size ≤ C) :
    Calls Tryd.prog 90 #[.string (strB line), .pointer (some ⟨C, 0, none⟩)] w (TakesL rowF w0 P (fun t W => JC w0 P C h t s W) line t w) := by
  obtain ⟨i0, hi0, hz0, hz1, hz2⟩ := info_parts infoRow
  obtain ⟨vs, vt, hA⟩ := hj
  have HR := Lib.hid (row_any line hl w (hm0.below (n := 0) hb))
  have HA := Lib.hid hA
  have HB := Lib.hid hb
  have HC := Lib.hid hC
  have HPW := Lib.hid hP
  unfold RowIs at HR
  cases ho : rowF line with
  | none =>
    have HO := Lib.hid ho
    rw [ho] at HR
    simp only [Option.getD_none, Option.isSome_none] at HR
    clear ho hA hb hm0 hl
    unfold rowC at HR
    go_enter Tryd.func90, Tryd.ntmps90
    go_wp2_with fail
    refine HR.out.mono ?_
    rintro e w1 ⟨rfl, hb1⟩
    have HB1 := Lib.hid (hb1.alloc hb1.size (.cells (rowC (0, 0)) 24))
    clear hb1
    simp only [Bool.false_eq_true, if_false]
    go_upto_region 2 with fail
    change Code.wp _ _ _ _ (w1.alloc (.cells (rowC (0, 0)) 24))
    generalize w1.alloc (.cells (rowC (0, 0)) 24) = w2 at HB1 ⊢
    go_wp2_with fail
    go_ret
    exact .inr ⟨HO.out, rfl, ⟨vs, vt, HA.out.below HB1.out⟩, HB.out.trans (HB1.out.mono HB.out.size), fun cs hcs => hcs.below HB1.out hcs.lt⟩
  | some r =>
    have HO := Lib.hid ho
    rw [ho] at HR
    simp only [Option.getD_some, Option.isSome_some] at HR
    clear ho hA hb hm0 hl
    unfold rowC at HR
    go_enter Tryd.func90, Tryd.ntmps90
    go_wp2_with fail
    refine HR.out.mono ?_
    rintro e w1 ⟨rfl, hb1⟩
    have HB1 := Lib.hid (hb1.alloc hb1.size (.cells (rowC r) 24))
    have HX1 := Lib.hid (Blk.new w1 (rowC r) 24 w1.heap.size rfl)
    clear hb1
    simp only [if_true]
    go_upto_region 2 with fail
    change Code.wp _ _ _ _ (w1.alloc (.cells (rowC r) 24))
    generalize w1.alloc (.cells (rowC r) 24) = w2 at HB1 HX1 ⊢
    have HA2 := Lib.hid (HA.out.below HB1.out)
    have HB2 := Lib.hid (HB.out.trans (HB1.out.mono HB.out.size))
    obtain ⟨ta, tc, rfl⟩ : ∃ a c, vt = .slice a t.length c := by
      rcases HA.out.rt.2 with ⟨rfl, h0⟩ | ⟨g, cap, cur, rfl, _⟩
      · exact ⟨none, 0, by rw [show t.length = 0 from h0]⟩
      · exact ⟨_, cap, rfl⟩
    have c1 : w2.cell? ⟨C, 1, none⟩ = some (.slice ta t.length tc) := HA2.out.box.cell 1 rfl
    have cr0 : w2.cell? ⟨w1.heap.size, 0, none⟩ = some (.int .i64 r.1) := HX1.out.cell 0 rfl
    have cr1 : w2.cell? ⟨w1.heap.size, 1, none⟩ = some (.int .i64 r.2) := HX1.out.cell 1 rfl
    have HNB := Lib.hid (Blk.new w2 (rowC r) 24 w2.heap.size rfl)
    have HA3 := Lib.hid (HA2.out.below ((Below.refl w2.heap.size w2).alloc (Nat.le_refl _) (.cells (rowC r) 24)))
    have HB3 := Lib.hid (HB2.out.alloc HB2.out.size (.cells (rowC r) 24))
    unfold rowC at HNB HA3 HB3
    have HTL := ht
    go_wp2_with (at_builtin; refine wpList_append_lies _ (by rfl) _ _ _ (by rfl) w0.heap.size 24 i0 (.agg (rowC (0, 0))) 2 16 Tryd.underlying49 hi0 hz0 hz1 hz2 (by rfl) (by decide) _ t.length (rowsT t) (by rfl) HA3.out.rt ⟨w2.heap.size, 0, none⟩ 1 1 (rowC r).toList (by rfl) (by rfl) (Lines.news_stp HNB.out) (Lines.mem_stp (by simp [rowC, Value.oneCell'])) (by decide) (by unfold maxLen; omega) (by omega) HB3.out.size (w2.heap.size + 1) (by simp) ?_; intro g cap2 w9 hown9 hgrow9 hat9 hlt9; have HX9 := Lib.hid (blk_row' HA3.out.box (by decide) HA3.out.rt hgrow9); have H9 := Lib.hid (HA3.out.pushT hown9 hgrow9 rfl hat9 (by have := HPW.out; have := HB1.out.size; omega) HC.out HB3.out); have c9 := HX9.out.cell 1 rfl; have f9 := HX9.out.free 1; clear hown9 hgrow9 hat9 hlt9)
    go_ret
    refine .inl ⟨r, HO.out, rfl, ⟨_, _, H9.out.1⟩, H9.out.2.1, fun cs hcs => ?_⟩
    exact H9.out.2.2 cs ((hcs.below HB1.out hcs.lt).old _)
set_option maxRecDepth 20000 in
set_option maxHeartbeats 4000000 in
theorem take3_any (line : Txt) (hl : line.length ≤ 90000) (w0 : World) (hm0 : MX w0) (P C : Nat) (h : Cfg) (t : List (Int × Int)) (s : List Sym) (w : World) (hj : JC w0 P C h t s w) (hb : Below w0.heap.size w0 w) (ht : s.length ≤ 100000) (hP : P < w.heap.size) (hC : w0.heap.size ≤ C) :
    Calls Tryd.prog 91 #[.string (strB line), .pointer (some ⟨C, 0, none⟩)] w (TakesL symF w0 P (fun s W => JC w0 P C h t s W) line s w) := by
  obtain ⟨i0, hi0, hz0, hz1, hz2⟩ := info_parts infoSy
  obtain ⟨vs, vt, hA⟩ := hj
  have HR := Lib.hid (symbol_any line (by omega) w (hm0.below (n := 0) hb))
  have HA := Lib.hid hA
  have HB := Lib.hid hb
  have HC := Lib.hid hC
  have HPW := Lib.hid hP
  unfold SymIs at HR
  cases ho : symF line with
  | none =>
    have HO := Lib.hid ho
    rw [ho] at HR
    simp only [Option.getD_none, Option.isSome_none] at HR
    clear ho hA hb hm0 hl
    unfold Sym.cells at HR
    go_enter Tryd.func91, Tryd.ntmps91
    go_wp2_with fail
    refine HR.out.mono ?_
    rintro e w1 ⟨rfl, hb1⟩
    have HB1 := Lib.hid (hb1.alloc hb1.size (.cells zeroSym.cells 29))
    clear hb1
    simp only [Bool.false_eq_true, if_false]
    go_upto_region 2 with fail
    change Code.wp _ _ _ _ (w1.alloc (.cells zeroSym.cells 29))
    generalize w1.alloc (.cells zeroSym.cells 29) = w2 at HB1 ⊢
    go_wp2_with fail
    go_ret
    exact .inr ⟨HO.out, rfl, ⟨vs, vt, HA.out.below HB1.out⟩, HB.out.trans (HB1.out.mono HB.out.size), fun cs hcs => hcs.below HB1.out hcs.lt⟩
  | some r =>
    have HO := Lib.hid ho
    rw [ho] at HR
    simp only [Option.getD_some, Option.isSome_some] at HR
    clear ho hA hb hm0 hl
    unfold Sym.cells at HR
    go_enter Tryd.func91, Tryd.ntmps91
    go_wp2_with fail
    refine HR.out.mono ?_
    rintro e w1 ⟨rfl, hb1⟩
    have HB1 := Lib.hid (hb1.alloc hb1.size (.cells r.cells 29))
    have HX1 := Lib.hid (Blk.new w1 r.cells 29 w1.heap.size rfl)
    clear hb1
    simp only [if_true]
    go_upto_region 2 with fail
    change Code.wp _ _ _ _ (w1.alloc (.cells r.cells 29))
    generalize w1.alloc (.cells r.cells 29) = w2 at HB1 HX1 ⊢
    have HA2 := Lib.hid (HA.out.below HB1.out)
    have HB2 := Lib.hid (HB.out.trans (HB1.out.mono HB.out.size))
    obtain ⟨ta, tc, rfl⟩ : ∃ a c, vs = .slice a s.length c := by
      rcases HA.out.rs.2 with ⟨rfl, h0⟩ | ⟨g, cap, cur, rfl, _⟩
      · exact ⟨none, 0, by rw [show s.length = 0 from h0]⟩
      · exact ⟨_, cap, rfl⟩
    have c1 : w2.cell? ⟨C, 0, none⟩ = some (.slice ta s.length tc) := HA2.out.box.cell 0 rfl
    have HNB := Lib.hid (Blk.new w2 r.cells 29 w2.heap.size rfl)
    have HA3 := Lib.hid (HA2.out.below ((Below.refl w2.heap.size w2).alloc (Nat.le_refl _) (.cells r.cells 29)))
    have HB3 := Lib.hid (HB2.out.alloc HB2.out.size (.cells r.cells 29))
    unfold Sym.cells at HNB HA3 HB3
    have HTL := ht
    go_wp2_with (first | (refine load_blk (by rfl) 29 _ (by rfl) w1.heap.size (by rfl) _ _ HX1.out _ Tryd.underlying29 rfl (by kernel_rfl) ?_; unfold Sym.cells) | (at_builtin; refine wpList_append_lies _ (by rfl) _ _ _ (by rfl) w0.heap.size 29 i0 (.agg zeroSym.cells) 16 128 Tryd.underlying48 hi0 hz0 hz1 hz2 (by rfl) (by decide) _ s.length (symsT s) (by rfl) HA3.out.rs ⟨w2.heap.size, 0, none⟩ 1 1 r.cells.toList (by rfl) (by rfl) (Lines.news_stp HNB.out) (Lines.mem_stp (by simp [Sym.cells, Value.oneCell'])) (by decide) (by unfold maxLen; omega) (by omega) HB3.out.size (w2.heap.size + 1) (by simp) ?_; intro g cap2 w9 hown9 hgrow9 hat9 hlt9; have HX9 := Lib.hid (blk_row' HA3.out.box (by decide) HA3.out.rs hgrow9); have H9 := Lib.hid (HA3.out.pushS hown9 hgrow9 rfl hat9 (by have := HPW.out; have := HB1.out.size; omega) HC.out HB3.out); have c9 := HX9.out.cell 0 rfl; have f9 := HX9.out.free 0; clear hown9 hgrow9 hat9 hlt9))
    go_ret
    refine .inl ⟨r, HO.out, rfl, ⟨_, _, H9.out.1⟩, H9.out.2.1, fun cs hcs => ?_⟩
    exact H9.out.2.2 cs ((hcs.below HB1.out hcs.lt).old _)
end Go.Proofs.YtmkcooamgojbpaaDoor.Sheet

/- Reading a configuration, step by step, plain; what a row of a configuration that was read holds. -/
namespace Go.Proofs.YtmkcooamgojbpaaDoor.Sheet
open Go.RowKit Go.Proofs.YtmkcooamgojbpaaDoor.Kit Go.Proofs.YtmkcooamgojbpaaDoor.Blk Go.Proofs.YtmkcooamgojbpaaDoor.Words Go.Proofs.YtmkcooamgojbpaaDoor.Octets Go.Proofs.YtmkcooamgojbpaaDoor.Lines Go.Proofs.YtmkcooamgojbpaaDoor.Dec Go.Proofs.YtmkcooamgojbpaaDoor.Symbol Go.Proofs.YtmkcooamgojbpaaDoor.Check Go.Proofs.YtmkcooamgojbpaaDoor.Table
set_option linter.unusedVariables false

def hdL : List (Txt × Nat) := [(wIndex, 1), (wFalls, 3), (wHalts, 2)]
def goF : List (Txt × Nat) → Nat → List (List Int) → List Txt → RRes
  | [], _, zs, ps => bodyF (zs.getD 0 []) (zs.getD 1 []) (zs.getD 2 []) ps
  | x :: r, k, zs, ps => match oneG x.1 x.2 ps with
    | none => .bad (k + 1)
    | some a => goF r (k + 1) (zs ++ [a.1]) a.2
theorem read_go (s : Txt) : readF s = goF hdL 0 [] (cutW 10 s) := by
  unfold readF hdL
  rw [goF]
  dsimp only
  cases oneG wIndex 1 (cutW 10 s) with
  | none => rfl
  | some a =>
    dsimp only
    rw [goF]
    dsimp only
    cases oneG wFalls 3 a.2 with
    | none => rfl
    | some b =>
      dsimp only
      rw [goF]
      dsimp only
      cases oneG wHalts 2 b.2 with
      | none => rfl
      | some c => rfl
theorem hd_drop : ∀ {k : Nat}, k < 3 → hdL.drop k = (hword k, (hgrp k).length) :: hdL.drop (k + 1)
  | 0, _ => rfl
  | 1, _ => rfl
  | 2, _ => rfl
  | k + 3, h => by omega
theorem go_one {k : Nat} (hk : k < 3) (zs : List (List Int)) (x : Txt) : goF (hdL.drop k) k zs [x] = .bad (k + 1) := by
  rw [hd_drop hk, goF]; rfl
theorem go_bad {k : Nat} (hk : k < 3) (zs : List (List Int)) {x : Txt} (h : partF (hword k) (hgrp k).length x = none) (y : Txt) (t : List Txt) : goF (hdL.drop k) k zs (x :: y :: t) = .bad (k + 1) := by
  rw [hd_drop hk, goF, oneG, h]; rfl
theorem go_ok {k : Nat} (hk : k < 3) (zs : List (List Int)) {x : Txt} {ns : List Int} (h : partF (hword k) (hgrp k).length x = some ns) (y : Txt) (t : List Txt) : goF (hdL.drop k) k zs (x :: y :: t) = goF (hdL.drop (k + 1)) (k + 1) (zs ++ [ns]) (y :: t) := by
  rw [hd_drop hk, goF, oneG, h]; rfl
theorem go_end (zs : List (List Int)) (ps : List Txt) : goF (hdL.drop 3) 3 zs ps = bodyF (zs.getD 0 []) (zs.getD 1 []) (zs.getD 2 []) ps := rfl
/-- The configuration's block, when the first lines' numbers are these. -/
def hdC (zs : List (List Int)) : Cfg := cfgL (zs.getD 0 []) (zs.getD 1 []) (zs.getD 2 []) [] []
def csA (zs : List (List Int)) : Array Value := cfgV (hdC zs) (.slice none 0 0) (.slice none 0 0)
theorem set_csA : ∀ {k : Nat} {zs : List (List Int)} {a : List Int}, k < 3 → zs.length = k → a.length = (hgrp k).length → setL (csA zs) ((hgrp k).map (·.2)) a = csA (zs ++ [a])
  | 0, [], [_], _, _, _ => rfl
  | 1, [_], [_, _, _], _, _, _ => rfl
  | 2, [_, _], [_, _], _, _, _ => rfl
theorem csA_plain (zs : List (List Int)) : PlainC (csA zs) := fun j u hu => by
  match j, hu with
  | 0, hu => injection hu with hu; exact .inr ⟨_, _, _, hu.symm⟩
  | 1, hu => injection hu with hu; exact .inr ⟨_, _, _, hu.symm⟩
  | 2, hu => injection hu with hu; exact .inl ⟨_, hu.symm⟩
  | 3, hu => injection hu with hu; exact .inl ⟨_, hu.symm⟩
  | 4, hu => injection hu with hu; exact .inl ⟨_, hu.symm⟩
  | 5, hu => injection hu with hu; exact .inl ⟨_, hu.symm⟩
  | 6, hu => injection hu with hu; exact .inl ⟨_, hu.symm⟩
  | 7, hu => injection hu with hu; exact .inl ⟨_, hu.symm⟩
  | j + 8, hu => rw [Array.getElem?_eq_none (by simp [csA, cfgV])] at hu; cases hu
theorem csA_int (zs : List (List Int)) : ∀ {k : Nat}, k < 3 → ∀ y ∈ hgrp k, ∃ n, (csA zs)[y.2]? = some (Value.int .i64 n)
  | 0, _, y, hy => by simp only [hgrp, List.mem_cons, List.not_mem_nil, or_false] at hy; subst hy; exact ⟨_, rfl⟩
  | 1, _, y, hy => by simp only [hgrp, List.mem_cons, List.not_mem_nil, or_false] at hy; rcases hy with rfl | rfl | rfl <;> exact ⟨_, rfl⟩
  | 2, _, y, hy => by simp only [hgrp, List.mem_cons, List.not_mem_nil, or_false] at hy; rcases hy with rfl | rfl <;> exact ⟨_, rfl⟩
  | k + 3, h, _, _ => by omega
/-- What is told of a text. -/
def cfg0 : Cfg := ⟨[], [], 0, 0, 0, 0, 0, 0⟩
def resF : RRes → Cfg × Int × Int
  | .bad n => (cfg0, (n : Int), 4)
  | .wrong f => (cfg0, 0, f)
  | .good c => (c, 0, 0)
def CfgOut (r : Cfg × Int × Int) (w : World) (e : Ending) (w' : World) : Prop :=
  ∃ sa ta sc tc, e = .returned (.tuple #[.agg (r.1.cells sa ta sc tc), .int .i64 r.2.1, .int .i64 r.2.2]) ∧ r.1.In w' sa ta ∧ Below w.heap.size w w'
theorem cfg0_in (w : World) : cfg0.In w none none := ⟨fun i h => by simp [cfg0] at h, fun i h => by simp [cfg0] at h, by simp [cfg0, maxLen], by simp [cfg0, maxLen]⟩
theorem cfgOut_bad {w w' : World} (n f : Int) (h : Below w.heap.size w w') : CfgOut (cfg0, n, f) w (.returned (.tuple #[.agg (cfg0.cells none none 0 0), .int .i64 n, .int .i64 f])) w' :=
  ⟨none, none, 0, 0, rfl, cfg0_in _, h⟩
/- Rows. -/
section
variable {α : Type} (c : α → Array Value) (z : Nat) (hz : ∀ x, (c x).size = z)
include hz
theorem flat_at (l : List α) : ∀ (i : Nat) (h : i < l.length) (j : Nat) (v : Value), (c l[i])[j]? = some v → (l.flatMap fun m => (c m).toList)[i * z + j]? = some v := by
  induction l with
  | nil => intro i h; simp at h
  | cons m l ih =>
    intro i h j v hv
    have hsz : (c m).toList.length = z := by simpa using hz m
    rw [List.flatMap_cons]
    cases i with
    | zero =>
      rw [List.getElem_cons_zero] at hv
      have hj : j < z := by have := (Array.getElem?_eq_some_iff.1 hv).1; rw [hz] at this; exact this
      rw [show 0 * z + j = j by simp, List.getElem?_append_left (by omega)]
      simpa using hv
    | succ i =>
      rw [List.getElem_cons_succ] at hv
      have he : (i + 1) * z + j = z + (i * z + j) := by rw [Nat.add_mul]; omega
      rw [he, List.getElem?_append_right (by omega), hsz, Nat.add_sub_cancel_left]
      exact ih i (by simpa using h) j v hv
theorem own_row {W : World} {base T : Nat} {v : Value} {l : List α} (ho : W.ownsRow base T z v l.length (l.flatMap fun m => (c m).toList)) :
    ∃ a cap, v = .slice a l.length cap ∧ l.length ≤ maxLen ∧ ∀ W' : World, W'.ownsRow base T z v l.length (l.flatMap fun m => (c m).toList) → ∀ i, (h : i < l.length) → ∃ b, a = some ⟨b, 0, none⟩ ∧ b < W'.heap.size ∧ ∀ (j : Nat) (u : Value), (c l[i])[j]? = some u → W'.cell? ⟨b, i * z + j, none⟩ = some u := by
  rcases ho.2 with ⟨rfl, h0⟩ | ⟨g, cap, cur, rfl, hg, hgb, hn, hc, hsz, htk⟩
  · exact ⟨none, 0, by rw [h0], by omega, fun W' _ i hi => by omega⟩
  · refine ⟨_, cap, rfl, by omega, fun W' ho' i hi => ⟨g, rfl, (World.ownsRow.lt ho' g rfl).2, fun j u hu => ?_⟩⟩
    have hlen : (l.flatMap fun m => (c m).toList).length = l.length * z := flat_size c z hz l
    have h1 := flat_at c z hz l i hi j u hu
    have h2 := (List.getElem?_eq_some_iff.1 h1).1
    rw [World.ownsRow.cellAt ho' (i * z + j) (by omega)]
    exact h1
end
theorem cfgA_in {w0 W : World} {P C : Nat} {h : Cfg} {t : List (Int × Int)} {s : List Sym} {vs vt : Value} (k : CfgA w0 P C h t s vs vt W) :
    ∃ sa ta sc tc, cfgV h vs vt = (Cfg.cells ⟨s, t, h.index, h.f0, h.f1, h.f2, h.h0, h.h1⟩ sa ta sc tc) ∧ ∀ W' : World, W'.ownsRow w0.heap.size 29 16 vs s.length (symsT s) → W'.ownsRow w0.heap.size 24 2 vt t.length (rowsT t) → Cfg.In ⟨s, t, h.index, h.f0, h.f1, h.f2, h.h0, h.h1⟩ W' sa ta := by
  obtain ⟨sa, sc, rfl, h1, h2⟩ := own_row (fun x : Sym => x.cells) 16 (fun _ => rfl) k.rs
  obtain ⟨ta, tc, rfl, h3, h4⟩ := own_row rowC 2 (fun _ => rfl) k.rt
  refine ⟨sa, ta, sc, tc, rfl, fun W' r1 r2 => ⟨fun i hi => ?_, fun i hi => ?_, h1, h3⟩⟩
  · obtain ⟨b, rfl, hb, hc⟩ := h2 W' r1 i hi
    exact ⟨b, 0, rfl, hb, fun j v hv => by rw [show 0 + i * 16 + j = i * 16 + j by omega]; exact hc j v hv⟩
  · obtain ⟨b, rfl, hb, hc⟩ := h4 W' r2 i hi
    exact ⟨b, 0, rfl, hb, by rw [show 0 + i * 2 = i * 2 + 0 by omega]; exact hc 0 _ rfl, by rw [show 0 + i * 2 + 1 = i * 2 + 1 by omega]; exact hc 1 _ rfl⟩
/-- A store into another configuration's block. -/
theorem CfgA.other {w0 W : World} {P C R : Nat} {h : Cfg} {t : List (Int × Int)} {s : List Sym} {vs vt : Value} {cs : Array Value} (k : CfgA w0 P C h t s vs vt W) (hR : Blk W R cs 53) (xs : List Value) (o : Nat) :
    (W.setCells R o xs).ownsRow w0.heap.size 29 16 vs s.length (symsT s) ∧ (W.setCells R o xs).ownsRow w0.heap.size 24 2 vt t.length (rowsT t) := by
  have hc := Chg.setCells (n := W.heap.size) (d := R) (a := W) xs o W (Chg.refl _ _ _) (.inl rfl)
  exact ⟨k.rs.kept (row := some R) ⟨hc.os, hc.tape, hc.output, hc.size, fun j hj hne => hc.block j hj (fun e => hne (by rw [e]))⟩ (.inr (row_blk k.rs hR (by decide))),
    k.rt.kept (row := some R) ⟨hc.os, hc.tape, hc.output, hc.size, fun j hj hne => hc.block j hj (fun e => hne (by rw [e]))⟩ (.inr (row_blk k.rt hR (by decide)))⟩
/-- A row of numbers whose block is not this one. -/
theorem nat_ne {M B T : Nat} {v : Value} {l : List (Bool × Addr)} {W : World} {cs : Array Value} {x : Value} (h : NAt M v l W) (h0 : 0 < l.length) (hb : Blk W B cs T) (hx : cs[0]? = some x) (hp : ∀ z, x ≠ .pointer z) : ∃ g c, v = .slice (some ⟨g, 0, none⟩) l.length c ∧ g < M ∧ g ≠ B := by
  obtain ⟨g, c, rfl, hg, hc⟩ := h
  refine ⟨g, c, rfl, hg, ?_⟩
  rintro rfl
  cases l with
  | nil => simp at h0
  | cons y l =>
    obtain ⟨u, hu, z, rfl⟩ : ∃ u, (numL (y :: l))[0]? = some u ∧ ∃ z, u = .pointer z := by
      simp only [numL, List.flatMap_cons, numC]
      split <;> exact ⟨_, rfl, _, rfl⟩
    have h2 := hc 0 _ hu
    rw [hb.cell 0 hx] at h2
    injection h2 with h2
    exact hp z h2
theorem nat_chg {M n B T : Nat} {v : Value} {l : List (Bool × Addr)} {W W' : World} {cs : Array Value} {x : Value} (h : NAt M v l W) (h0 : 0 < l.length) (hb : Blk W B cs T) (hx : cs[0]? = some x) (hp : ∀ z, x ≠ .pointer z) (hM : M ≤ n) (hc : Chg n B W W') : NAt M v l W' := by
  obtain ⟨g, c, rfl, hg, hne⟩ := nat_ne h h0 hb hx hp
  obtain ⟨g', c', e, h2, h3⟩ := h
  injection e with e1 _ e3
  injection e1 with e1
  injection e1 with e1
  subst e1
  exact ⟨g, c, rfl, hg, fun j u hu => by rw [hc.cell (p := ⟨g, j, none⟩) (by show g < n; omega) hne]; exact h3 j u hu⟩
end Go.Proofs.YtmkcooamgojbpaaDoor.Sheet

/- sheet.Read's closure that reads a part; damperref07's configurations as the rows have them. -/
namespace Go.Proofs.YtmkcooamgojbpaaDoor.Sheet
open Go.RowKit Go.Proofs.YtmkcooamgojbpaaDoor.Kit Go.Proofs.YtmkcooamgojbpaaDoor.Blk Go.Proofs.YtmkcooamgojbpaaDoor.Words Go.Proofs.YtmkcooamgojbpaaDoor.Octets Go.Proofs.YtmkcooamgojbpaaDoor.Lines Go.Proofs.YtmkcooamgojbpaaDoor.Dec Go.Proofs.YtmkcooamgojbpaaDoor.Symbol Go.Proofs.YtmkcooamgojbpaaDoor.Check
attribute [local go_sem ↓] Go.wp_at_zero Go.wp_at_succ
set_option linter.unusedVariables false

def PartE (x line : Txt) (q : List (Bool × Nat)) (C : Nat) (cs : Array Value) (b : Bool) (W : World) : Prop :=
  (b = false ∧ partF x q.length line = none) ∨ ∃ ns, b = true ∧ partF x q.length line = some ns ∧ Blk W C (setL cs (q.map (·.2)) ns) 53
def PartR (x line : Txt) (q : List (Bool × Nat)) (C : Nat) (cs : Array Value) (w : World) (b : Bool) (W : World) : Prop := Chg w.heap.size C w W ∧ PartE x line q C cs b W
set_option maxRecDepth 20000 in
set_option maxHeartbeats 4000000 in
theorem read1_any (x line : Txt) (hl : line.length ≤ 100000) (Pb L C : Nat) (cs : Array Value) (q : List (Bool × Nat)) (v : Value) (w : World) (hm : MX w) (hb : Blk w C cs 53) (hcs : PlainC cs)
    (hq : ∀ y ∈ q, ∃ n, cs[y.2]? = some (Value.int .i64 n)) (h0 : 0 < q.length) (h1 : q.length ≤ 1000) (hn : NAt w.heap.size v (atB C q) w)
    (hP : Blk w Pb #[.string (strB x), v] 101) (hL : w.cell? ⟨L, 0, none⟩ = some (.string (strB line))) :
    Calls Tryd.prog 87 #[.pointer (some ⟨Pb, 0, none⟩), .pointer (some ⟨L, 0, none⟩)] w fun e W => (e = .returned (.tuple #[]) ∧ PartR x line q C cs w true W) ∨ (e = badE ∧ PartR x line q C cs w false W) := by
  have HR := Lib.hid (read_any x line hl C cs 53 q v w hm hb hcs hq h0 h1 hn)
  obtain ⟨g, c, rfl, -, -⟩ := hn
  have c0 := hP.cell 0 rfl
  have c1 := hP.cell 1 rfl
  clear hb hcs hq h0 h1 hP hm
  go_enter Tryd.func87, Tryd.ntmps87
  go_wp2_with fail
  refine HR.out.mono ?_
  rintro e w3 ⟨hc, ⟨ho, rfl⟩ | ⟨ns, ho, rfl, hb⟩⟩
  · have HC := Lib.hid (show PartR x line q C cs w false w3 from ⟨hc, .inl ⟨rfl, ho⟩⟩)
    clear hc ho
    go_wp2_with fail
    exact ⟨rfl, .inr ⟨rfl, HC.out⟩⟩
  · have HC := Lib.hid (show PartR x line q C cs w true w3 from ⟨hc, .inr ⟨ns, rfl, ho, hb⟩⟩)
    clear hc ho hb
    go_wp2_with fail
    go_end0
    exact .inl ⟨rfl, HC.out⟩
end Go.Proofs.YtmkcooamgojbpaaDoor.Sheet

/- sheet.Read. -/
namespace Go.Proofs.YtmkcooamgojbpaaDoor.Sheet
open Go.RowKit Go.Proofs.YtmkcooamgojbpaaDoor.Kit Go.Proofs.YtmkcooamgojbpaaDoor.Blk Go.Proofs.YtmkcooamgojbpaaDoor.Words Go.Proofs.YtmkcooamgojbpaaDoor.Octets Go.Proofs.YtmkcooamgojbpaaDoor.Lines Go.Proofs.YtmkcooamgojbpaaDoor.Dec Go.Proofs.YtmkcooamgojbpaaDoor.Symbol Go.Proofs.YtmkcooamgojbpaaDoor.Check Go.Proofs.YtmkcooamgojbpaaDoor.Table
attribute [local go_sem ↓] Go.wp_at_zero Go.wp_at_succ
set_option linter.unusedVariables false

theorem results_blk_tmps {P : Program} {fn : Func} {p u v : Tmp} {ty T : TypeId} {tmps : Array Value} {w : World} {B : Nat} {cs : Array Value} {d : TypeDesc} (h : fn.results = #[.cell p ty, .tmp u, .tmp v]) (hp : tmps.getD p undef = .pointer (some ⟨B, 0, none⟩)) (hb : Blk w B cs T)
    (hu : P.underlying ty = some d) (hd : d.isRow = true) (hi : (P.info? ty).map (·.size) = some cs.size) : (results fn tmps).run P w = .ok (.tuple #[.agg cs, tmps.getD u undef, tmps.getD v undef]) w := by
  have hp' : tmps[p]?.getD undef = .pointer (some ⟨B, 0, none⟩) := by simpa using hp
  have hl := run_loadVar_mid w B 0 ty cs.toList d hb.range hu hd (by simpa using hi)
  simp [results, h, hp', asAddr, hl]
theorem NAt.up {M M' : Nat} {v : Value} {l : List (Bool × Addr)} {W : World} (h : NAt M v l W) (hM : M ≤ M') : NAt M' v l W := by
  obtain ⟨g, c, h1, h2, h3⟩ := h
  exact ⟨g, c, h1, by omega, h3⟩
/-- Between two of the first lines: w1: the world behind the result's block; the reader's and the configuration's blocks come next. -/
structure HdS (w1 : World) (u : Nat → Value) (l : Txt) (k : Nat) (zs : List (List Int)) (ps : List Txt) (W : World) : Prop where
  rd : RdS w1.heap.size ps k W
  box : Blk W (w1.heap.size + 1) (csA zs) 53
  nums : ∀ j, j < 3 → NAt W.heap.size (u j) (atB (w1.heap.size + 1) (hgrp j)) W
  bel : Below w1.heap.size w1 W
  len : zs.length = k
  go : goF (hdL.drop k) k zs ps = readF l
section
variable {w1 W W' W2 : World} {u : Nat → Value} {l : Txt} {k : Nat} {zs : List (List Int)} {ps : List Txt}
theorem atB_pos {B j : Nat} (hj : j < 3) : 0 < (atB B (hgrp j)).length := by rw [atB_len]; exact (hgrp_len j hj).1
theorem HdS.below (h : HdS w1 u l k zs ps W) (hb : Below W.heap.size W W') : HdS w1 u l k zs ps W' :=
  ⟨h.rd.blk (h.rd.box.below hb h.rd.box.lt), h.box.below hb h.box.lt, fun j hj => (h.nums j hj).on hb, h.bel.trans (hb.mono h.bel.size), h.len, h.go⟩
/-- A line was tried. -/
theorem HdS.tried (h : HdS w1 u l k zs ps W) (o : Obj) (hc : Chg (W.alloc o).heap.size (w1.heap.size + 1) (W.alloc o) W') (hb : Below W.heap.size W' W2) :
    RdS w1.heap.size ps k W2 ∧ (∀ j, j < 3 → NAt W2.heap.size (u j) (atB (w1.heap.size + 1) (hgrp j)) W2) ∧ Below w1.heap.size w1 W2 := by
  have h0 : W.heap.size ≤ (W.alloc o).heap.size := by simp
  have hs : W.heap.size ≤ W2.heap.size := Nat.le_trans h0 (Nat.le_trans hc.size hb.size)
  refine ⟨h.rd.blk ((hc.blk (by have := h.rd.box.lt; omega) (by omega) (h.rd.box.old o)).below hb h.rd.box.lt), fun j hj => ?_, ?_⟩
  · have n1 := (h.nums j hj).below (Nat.le_refl _) ((Below.refl _ _).alloc (Nat.le_refl _) o)
    have n2 := nat_chg n1 (atB_pos hj) (h.box.old o) (show (csA zs)[0]? = some (.slice none 0 0) from rfl) (fun z e => by cases e) h0 hc
    exact (n2.below (Nat.le_refl _) hb).up hs
  · exact ((h.bel.alloc h.bel.size o).trans (hc.below' (Nat.le_succ _) (Nat.le_trans h.bel.size h0))).trans (hb.mono h.bel.size)
/-- And taken. -/
theorem HdS.next {ns : List Int} {qs : List Txt} (hlen : zs.length = k) (hk : k < 3) (hn : ns.length = (hgrp k).length) (hbox : Blk W2 (w1.heap.size + 1) (setL (csA zs) ((hgrp k).map (·.2)) ns) 53)
    (hnum : ∀ j, j < 3 → NAt W2.heap.size (u j) (atB (w1.heap.size + 1) (hgrp j)) W2) (hbel : Below w1.heap.size w1 W2) (hgo : goF (hdL.drop (k + 1)) (k + 1) (zs ++ [ns]) qs = readF l)
    (hrd : RdS w1.heap.size qs (k + 1) W') {cs : Array Value} {x : ByteArray} (hP : Blk W2 w1.heap.size cs 128) (hx : cs[0]? = some (.string x)) (hc : Chg W2.heap.size w1.heap.size W2 W') : HdS w1 u l (k + 1) (zs ++ [ns]) qs W' :=
  ⟨hrd, by rw [← set_csA hk hlen hn]; exact hc.blk hbox.lt (by omega) hbox, fun j hj => (nat_chg (hnum j hj) (atB_pos hj) hP hx (fun z e => by cases e) (Nat.le_refl _) hc).up hc.size, hbel.trans (hc.below' (Nat.le_refl _) hbel.size), by simp [hlen], hgo⟩
end
theorem HdS.start {w1 w2 w3 : World} {u : Nat → Value} {l : Txt} (hl : l.length ≤ 80000) (hp : Blk w2 w1.heap.size #[.string (strB l), .int .i64 0] 128) (hc : Blk w2 (w1.heap.size + 1) (csA []) 53) (hb : Below w1.heap.size w1 w2)
    (hn : ∀ j, j < 3 → NAt w3.heap.size (u j) (atB (w1.heap.size + 1) (hgrp j)) w3) (hb3 : Below w2.heap.size w2 w3) : HdS w1 u l 0 [] (cutW 10 l) w3 := by
  refine ⟨⟨?_, ?_, cutW_ne 10 l, ?_, ?_⟩, hc.below hb3 hc.lt, hn, hb.trans (hb3.mono hb.size), rfl, ?_⟩
  · rw [join_cut]; exact hp.below hb3 hp.lt
  · exact cut_clean 10 l
  · rw [join_cut]; omega
  · rw [cut_len]; have := List.count_le_length (a := (10 : UInt8)) (l := l); omega
  · exact (read_go l).symm
theorem JC.chg {w0 W W' : World} {P C : Nat} {h : Cfg} {t : List (Int × Int)} {s : List Sym} (k : JC w0 P C h t s W) (hc : Chg W.heap.size P W W') : JC w0 P C h t s W' := by
  obtain ⟨vs, vt, k⟩ := k
  exact ⟨vs, vt, k.chg hc⟩
theorem JC.lt {w0 W : World} {P : Nat} {h : Cfg} {t : List (Int × Int)} {s : List Sym} (k : JC w0 P (P + 1) h t s W) : P < W.heap.size := by
  obtain ⟨vs, vt, k⟩ := k
  have := k.box.lt
  omega
theorem part_index (u : Nat → Value) : ∀ {k : Nat}, k < 3 → ∀ w, (Instr.index 129 (.agg (headA u)) (.int .i64 (k : Int))).run Tryd.prog w = .ok (.agg #[.string (strB (hword k)), u k]) w
  | 0, _, _ => by kernel_rfl
  | 1, _, _ => by kernel_rfl
  | 2, _, _ => by kernel_rfl
  | k + 3, h, _ => by omega
theorem empty_join {qs : List Txt} (hne : qs ≠ []) (h : joinW 10 qs = []) : qs = [[]] := by
  match qs, hne with
  | [x], _ => rw [show joinW 10 [x] = x from rfl] at h; rw [h]
  | x :: y :: t, _ => rw [join_cons (by simp)] at h; simp at h
theorem cfgOut_bad' {w w' : World} (n f : Int) (h : Below w.heap.size w w') : CfgOut (cfg0, n, f) w (.returned (.tuple #[.agg (csA []), .int .i64 n, .int .i64 f])) w' := cfgOut_bad n f h
set_option maxRecDepth 20000 in
set_option maxHeartbeats 1000000 in
theorem read_sheet_any (l : Txt) (hl : l.length ≤ 80000) (w : World) (hm : MX w) :
    Calls Tryd.prog 33 #[.string (strB l)] w (CfgOut (resF (readF l)) w) := by
  have hmf : ∀ (fn : Fn) (first cap : Array Value) (w : World), (Instr.makeFunc fn first cap).run Tryd.prog w = .ok (.func fn first cap) w := fun _ _ _ _ => rfl
  have HG1 := Lib.hid (fun c w => callFunc_enter (P := Tryd.prog) Tryd.func87 (by kernel_rfl) (by kernel_rfl) c w)
  have HG2 := Lib.hid (fun c w => callFunc_enter (P := Tryd.prog) Tryd.func90 (by kernel_rfl) (by kernel_rfl) c w)
  have HG3 := Lib.hid (fun c w => callFunc_enter (P := Tryd.prog) Tryd.func91 (by kernel_rfl) (by kernel_rfl) c w)
  have HLN := Lib.hid hl
  obtain ⟨w1, hw1⟩ : ∃ w1, w1 = w.alloc (.cells (csA []) 53) := ⟨_, rfl⟩
  have HR1 := Lib.hid (show Blk w1 w.heap.size (csA []) 53 by rw [hw1]; exact Blk.new _ _ _ _ rfl)
  have HM1 := Lib.hid (show MX w1 by rw [hw1]; exact hm.below (n := 0) ((Below.refl _ _).alloc (Nat.le_refl _) _))
  have hs1 : w1.heap.size = w.heap.size + 1 := by rw [hw1]; simp
  have HB1 := Lib.hid (show Below w.heap.size w w1 by rw [hw1]; exact (Below.refl _ _).alloc (Nat.le_refl _) _)
  have HP1 := Lib.hid ((Blk.new w1 #[.string (strB l), .int .i64 0] 128 w1.heap.size rfl).old (.cells (csA []) 53))
  have HC1 := Lib.hid (Blk.new (w1.alloc (.cells #[.string (strB l), .int .i64 0] 128)) (csA []) 53 (w1.heap.size + 1) (by simp))
  have HB2 := Lib.hid (show Below w1.heap.size w1 ((w1.alloc (.cells #[.string (strB l), .int .i64 0] 128)).alloc (.cells (csA []) 53)) from ((Below.refl _ _).alloc (Nat.le_refl _) _).alloc (by simp) _)
  clear hm hl
  go_enter Tryd.func33, Tryd.ntmps33
  go_upto_region 3 with fail
  change Code.wp _ _ _ _ (((w.alloc (.cells (csA []) 53)).alloc (.cells #[.string (strB l), .int .i64 0] 128)).alloc (.cells (csA []) 53))
  rw [← hw1]
  have e1 : w.heap.size + 1 = w1.heap.size := hs1.symm
  have HSZ := Lib.hid hs1
  clear hs1
  clear hw1
  generalize (w1.alloc (.cells #[.string (strB l), .int .i64 0] 128)).alloc (.cells (csA []) 53) = w2 at HP1 HC1 HB2 ⊢
  have HHD := Lib.hid (head_any (w1.heap.size + 1) w2)
  rw [e1]
  clear e1
  go_wp2_with fail
  refine HHD.out.mono ?_
  clear HHD
  rintro e w3 ⟨u, rfl, hnum, hb3⟩
  have H0 := Lib.hid (HdS.start HLN.out HP1.out HC1.out HB2.out hnum hb3)
  clear HP1 HC1 HB2 hnum hb3
  go_wp2_with fail
  go_loopw [17] (fun i wr => ∃ k zs ps, k ≤ 3 ∧ i = .int .i64 ((k : Nat) : Int) ∧ HdS w1 u l k zs ps wr) (fun i _ => 3 - (intOf i).toNat)
  case atStart => exact ⟨0, [], cutW 10 l, by omega, rfl, H0.out⟩
  case round =>
    obtain ⟨k, zs, ps, hk, rfl, hS⟩ := hrel
    have HS := Lib.hid hS
    clear hS H0
    by_cases hk3 : k < 3
    · have hk4 : (k : Int) < 3 := by omega
      have hidx := part_index u hk3
      obtain ⟨g, c, hu, hg⟩ := HS.out.nums k hk3
      rw [hu] at hidx
      have HNB := Lib.hid (Blk.new wr #[.string (strB (hword k)), .slice (some ⟨g, 0, none⟩) (atB (w1.heap.size + 1) (hgrp k)).length c] 101 wr.heap.size rfl)
      have HS1 := Lib.hid (HS.out.below ((Below.refl wr.heap.size wr).alloc (Nat.le_refl _) (.cells #[.string (strB (hword k)), .slice (some ⟨g, 0, none⟩) (atB (w1.heap.size + 1) (hgrp k)).length c] 101)))
      have HN := Lib.hid (next_any w1.heap.size k ps _ (HM1.out.below (n := 0) HS1.out.bel) HS1.out.rd)
      clear hg
      match ps with
      | [] => exact absurd rfl HS.out.rd.ne
      | [x] =>
        have HBAD := Lib.hid (show resF (readF l) = (cfg0, (k : Int) + 1, 4) by rw [← HS.out.go, go_one hk3]; simp [resF])
        go_wp2_with fail
        refine HN.out.mono ?_
        rintro e w4 ⟨rfl, hb4⟩
        have HS4 := Lib.hid ((HS1.out.below hb4).below ((Below.refl w4.heap.size w4).alloc (Nat.le_refl _) (.cells #[.string (strB x)] 9)))
        clear hb4 HN HNB HS HS1
        simp only [headT']
        go_upto_region 8 with fail
        change Code.wp _ _ _ _ (w4.alloc (.cells #[.string (strB x)] 9))
        generalize w4.alloc (.cells #[.string (strB x)] 9) = w5 at HS4 ⊢
        have HRD := Lib.hid HS4.out.rd
        have HRES := Lib.hid (HR1.out.below HS4.out.bel HR1.out.lt)
        have HBEL := Lib.hid (HB1.out.trans (HS4.out.bel.mono HB1.out.size))
        have q1 : (k : Int) + 1 ≤ 4 := by omega
        have q3 : IntKind.i64.wrap ((k : Int) + 1) = (k : Int) + 1 := IntWalk.i64_in _ (by omega)
        refine wp_region_held_drew (S := (fun w' => w'.cell? ⟨w1.heap.size, 1, none⟩ = some (.int .i64 (k : Int)))) (by kernel_rfl) (HRD.out.box.cell 1 rfl) (fun hHeld => ?_)
        refine wpAnyH_take (i := 0) (oi := ⟨some 32, _, _, _, _, _⟩) (v := ?_) rfl (by kernel_rfl) (by kernel_rfl) (by kernel_rfl) (fun _ _ _ h => h) (Or.inl ⟨by rfl, ?_⟩) (by assumption) ?_
        rotate_left
        · (intro w hSw; (try dsimp only at hSw); go_simp; (try with_reducible rfl))
        simp only [Act.put, List.setIfInBounds_toArray, List.set_cons_zero, List.set_cons_succ]
        refine wpAnyH_take (i := 1) (oi := ⟨some 33, _, _, _, _, _⟩) (v := ?_) rfl (by kernel_rfl) (by kernel_rfl) (by kernel_rfl) (fun _ _ _ h => h) (Or.inl ⟨by rfl, ?_⟩) (by assumption) ?_
        rotate_left
        · (intro w hSw; (try dsimp only at hSw); go_simp; (try with_reducible rfl))
        simp only [Act.put, List.setIfInBounds_toArray, List.set_cons_zero, List.set_cons_succ]
        refine wpAnyH_take (i := 2) (oi := ⟨some 34, _, _, _, _, _⟩) (v := ?_) rfl (by kernel_rfl) (by kernel_rfl) (by kernel_rfl) (fun _ _ _ h => h) (Or.inl ⟨by rfl, ?_⟩) (by assumption) ?_
        rotate_left
        · (intro w hSw; (try dsimp only at hSw); go_simp; (try with_reducible rfl))
        simp only [Act.put, List.setIfInBounds_toArray, List.set_cons_zero, List.set_cons_succ]
        refine wpAnyH_take (i := 3) (oi := ⟨some 35, _, _, _, _, _⟩) (v := ?_) rfl (by kernel_rfl) (by kernel_rfl) (by kernel_rfl) (fun _ _ _ h => h) (Or.inl ⟨by rfl, ?_⟩) (by assumption) ?_
        rotate_left
        · (intro w hSw; (try dsimp only at hSw); go_simp; (try with_reducible rfl))
        simp only [Act.put, List.setIfInBounds_toArray, List.set_cons_zero, List.set_cons_succ]
        refine wpAnyH_take (i := 4) (oi := ⟨some 36, _, _, _, _, _⟩) (v := ?_) rfl (by kernel_rfl) (by kernel_rfl) (by kernel_rfl) (fun _ _ _ h => h) (Or.inl ⟨by rfl, ?_⟩) (by assumption) ?_
        rotate_left
        · (intro w hSw; (try dsimp only at hSw); go_simp; (try with_reducible rfl))
        simp only [Act.put, List.setIfInBounds_toArray, List.set_cons_zero, List.set_cons_succ]
        refine wpAnyH_take (i := 5) (oi := ⟨some 37, _, _, _, _, _⟩) (v := (.int .i64 ((k : Int) + 1))) rfl (by kernel_rfl) (by kernel_rfl) (by kernel_rfl) (fun _ _ _ h => h) (Or.inl ⟨by rfl, fun w hSw => by (try dsimp only at hSw); go_simp⟩) (by assumption) ?_
        simp only [Act.put, List.setIfInBounds_toArray, List.set_cons_zero, List.set_cons_succ]
        refine wpAnyH_ready (rs := [6]) (by kernel_rfl) (by simp) ?_
        refine AllReadyH.cons (o := ⟨none, _, _, _, _, _⟩) rfl (fun KK hK => ?_) AllReadyH.nil
        refine step_store_blk (by rfl) 53 _ _ (by rfl) w.heap.size (by rfl) (csA []) (csA []) 53 HRES.out.drew (by rfl) rfl (by kernel_rfl) (by simp [csA, cfgV, Value.oneCell']) ?_
        refine hK.out _ _ ((HRD.out.box.drew.apartAll (csA []).toList 0 _ (by have := HSZ.out; omega)).cell 1 rfl) (fun hHeld => ?_)
        clear hK; try clear KK
        refine wpAnyH_take (i := 7) (oi := ⟨some 3, _, _, _, _, _⟩) (v := ?_) rfl (by kernel_rfl) (by kernel_rfl) (by kernel_rfl) (fun _ _ _ h => h) (Or.inl ⟨by rfl, ?_⟩) (by assumption) ?_
        rotate_left
        · (intro w hSw; (try dsimp only at hSw); go_simp; (try with_reducible rfl))
        simp only [Act.put, List.setIfInBounds_toArray, List.set_cons_zero, List.set_cons_succ]
        refine wpAnyH_take (i := 8) (oi := ⟨some 4, _, _, _, _, _⟩) (v := ?_) rfl (by kernel_rfl) (by kernel_rfl) (by kernel_rfl) (fun _ _ _ h => h) (Or.inl ⟨by rfl, ?_⟩) (by assumption) ?_
        rotate_left
        · (intro w hSw; (try dsimp only at hSw); go_simp; (try with_reducible rfl))
        simp only [Act.put, List.setIfInBounds_toArray, List.set_cons_zero, List.set_cons_succ]
        refine wpAnyH_done (by kernel_rfl) ?_ _
        clear hHeld
        go_wp2_with fail
        refine bodyPost_ret (results_blk_tmps rfl rfl (HRES.out.drew.setCells (csA []) rfl) Tryd.underlying53 rfl (by kernel_rfl)) rfl ?_
        rw [HBAD.out]
        change CfgOut (cfg0, (k : Int) + 1, 4) w (.returned (.tuple #[.agg (csA []), .int .i64 ((k : Int) + 1), .int .i64 4])) _
        exact cfgOut_bad' ((k : Int) + 1) 4 (Blk.Below.setCells _ _ _ HBEL.out.drew (Nat.le_refl _))
      | x :: y :: t =>
        go_wp2_with fail
        refine HN.out.mono ?_
        rintro e w4 ⟨rfl, hb4⟩
        have HS4 := Lib.hid ((HS1.out.below hb4).below ((Below.refl w4.heap.size w4).alloc (Nat.le_refl _) (.cells #[.string (strB x)] 9)))
        have HPB := Lib.hid ((HNB.out.below hb4 (by simp)).old (.cells #[.string (strB x)] 9))
        have HLB := Lib.hid (Blk.new w4 #[.string (strB x)] 9 w4.heap.size rfl)
        have hx : x.length ≤ 90000 := by
          have := HS.out.rd.len
          rw [join_cons (by simp)] at this
          simp at this
          omega
        clear hb4 HN HNB HS HS1
        simp only [headT']
        generalize hW5 : w4.alloc (.cells #[.string (strB x)] 9) = w5 at HS4 HPB HLB
        have HTR := Lib.hid (try_of 87 #[.pointer (some ⟨wr.heap.size, 0, none⟩), .pointer (some ⟨w4.heap.size, 0, none⟩)] (HG1.out _) (PartR (hword k) x (hgrp k) (w1.heap.size + 1) (csA zs) (w5.alloc (.cells #[.int .i64 0] 25))) w5
          (read1_any (hword k) x (by omega) wr.heap.size w4.heap.size (w1.heap.size + 1) (csA zs) (hgrp k) _ (w5.alloc (.cells #[.int .i64 0] 25)) (HM1.out.below (n := 0) (HS4.out.bel.alloc HS4.out.bel.size _)) (HS4.out.box.old _) (csA_plain zs) (csA_int zs hk3) (hgrp_len k hk3).1 (by have := (hgrp_len k hk3).2; omega)
            (by rw [← hu]; exact (HS4.out.nums k hk3).on ((Below.refl _ _).alloc (Nat.le_refl _) _)) (HPB.out.old _) ((HLB.out.old _).cell 0 rfl))
          (fun b W h => h.1.blk (by simp) (by have := HS4.out.box.lt; omega) (Blk.new w5 _ _ _ rfl)))
        have HRES := Lib.hid (HR1.out.below HS4.out.bel HR1.out.lt)
        go_upto_region 7 with fail
        go_wp2_with fail
        refine HTR.out.mono ?_
        clear HTR hW5
        rintro e w6 ⟨b, W, ⟨hc, hp⟩, rfl, hb6⟩
        obtain ⟨hrd6, hnum6, hbel6⟩ := HS4.out.tried _ hc hb6
        have HRD := Lib.hid hrd6
        have HNU := Lib.hid hnum6
        have HBE := Lib.hid hbel6
        have HRES6 := Lib.hid (HR1.out.below hbel6 HR1.out.lt)
        clear hrd6 hnum6 hbel6
        rcases hp with ⟨rfl, ho⟩ | ⟨ns, rfl, ho, hbox⟩
        · have HBAD := Lib.hid (show resF (readF l) = (cfg0, (k : Int) + 1, 4) by rw [← HS4.out.go, go_bad hk3 _ ho]; simp [resF])
          have HBEL := Lib.hid (HB1.out.trans (HBE.out.mono HB1.out.size))
          clear HRES
          have HRES := HRES6
          clear ho hc hb6 HS4 HRES6
          simp only [Bool.false_eq_true, if_false]
          go_upto_region 8 with fail
          have q1 : (k : Int) + 1 ≤ 4 := by omega
          have q3 : IntKind.i64.wrap ((k : Int) + 1) = (k : Int) + 1 := IntWalk.i64_in _ (by omega)
          refine wp_region_held_drew (S := (fun w' => w'.cell? ⟨w1.heap.size, 1, none⟩ = some (.int .i64 (k : Int)))) (by kernel_rfl) (HRD.out.box.cell 1 rfl) (fun hHeld => ?_)
          refine wpAnyH_take (i := 0) (oi := ⟨some 32, _, _, _, _, _⟩) (v := ?_) rfl (by kernel_rfl) (by kernel_rfl) (by kernel_rfl) (fun _ _ _ h => h) (Or.inl ⟨by rfl, ?_⟩) (by assumption) ?_
          rotate_left
          · (intro w hSw; (try dsimp only at hSw); go_simp; (try with_reducible rfl))
          simp only [Act.put, List.setIfInBounds_toArray, List.set_cons_zero, List.set_cons_succ]
          refine wpAnyH_take (i := 1) (oi := ⟨some 33, _, _, _, _, _⟩) (v := ?_) rfl (by kernel_rfl) (by kernel_rfl) (by kernel_rfl) (fun _ _ _ h => h) (Or.inl ⟨by rfl, ?_⟩) (by assumption) ?_
          rotate_left
          · (intro w hSw; (try dsimp only at hSw); go_simp; (try with_reducible rfl))
          simp only [Act.put, List.setIfInBounds_toArray, List.set_cons_zero, List.set_cons_succ]
          refine wpAnyH_take (i := 2) (oi := ⟨some 34, _, _, _, _, _⟩) (v := ?_) rfl (by kernel_rfl) (by kernel_rfl) (by kernel_rfl) (fun _ _ _ h => h) (Or.inl ⟨by rfl, ?_⟩) (by assumption) ?_
          rotate_left
          · (intro w hSw; (try dsimp only at hSw); go_simp; (try with_reducible rfl))
          simp only [Act.put, List.setIfInBounds_toArray, List.set_cons_zero, List.set_cons_succ]
          refine wpAnyH_take (i := 3) (oi := ⟨some 35, _, _, _, _, _⟩) (v := ?_) rfl (by kernel_rfl) (by kernel_rfl) (by kernel_rfl) (fun _ _ _ h => h) (Or.inl ⟨by rfl, ?_⟩) (by assumption) ?_
          rotate_left
          · (intro w hSw; (try dsimp only at hSw); go_simp; (try with_reducible rfl))
          simp only [Act.put, List.setIfInBounds_toArray, List.set_cons_zero, List.set_cons_succ]
          refine wpAnyH_take (i := 4) (oi := ⟨some 36, _, _, _, _, _⟩) (v := ?_) rfl (by kernel_rfl) (by kernel_rfl) (by kernel_rfl) (fun _ _ _ h => h) (Or.inl ⟨by rfl, ?_⟩) (by assumption) ?_
          rotate_left
          · (intro w hSw; (try dsimp only at hSw); go_simp; (try with_reducible rfl))
          simp only [Act.put, List.setIfInBounds_toArray, List.set_cons_zero, List.set_cons_succ]
          refine wpAnyH_take (i := 5) (oi := ⟨some 37, _, _, _, _, _⟩) (v := (.int .i64 ((k : Int) + 1))) rfl (by kernel_rfl) (by kernel_rfl) (by kernel_rfl) (fun _ _ _ h => h) (Or.inl ⟨by rfl, fun w hSw => by (try dsimp only at hSw); go_simp⟩) (by assumption) ?_
          simp only [Act.put, List.setIfInBounds_toArray, List.set_cons_zero, List.set_cons_succ]
          refine wpAnyH_ready (rs := [6]) (by kernel_rfl) (by simp) ?_
          refine AllReadyH.cons (o := ⟨none, _, _, _, _, _⟩) rfl (fun KK hK => ?_) AllReadyH.nil
          refine step_store_blk (by rfl) 53 _ _ (by rfl) w.heap.size (by rfl) (csA []) (csA []) 53 HRES.out.drew (by rfl) rfl (by kernel_rfl) (by simp [csA, cfgV, Value.oneCell']) ?_
          refine hK.out _ _ ((HRD.out.box.drew.apartAll (csA []).toList 0 _ (by have := HSZ.out; omega)).cell 1 rfl) (fun hHeld => ?_)
          clear hK; try clear KK
          refine wpAnyH_take (i := 7) (oi := ⟨some 3, _, _, _, _, _⟩) (v := ?_) rfl (by kernel_rfl) (by kernel_rfl) (by kernel_rfl) (fun _ _ _ h => h) (Or.inl ⟨by rfl, ?_⟩) (by assumption) ?_
          rotate_left
          · (intro w hSw; (try dsimp only at hSw); go_simp; (try with_reducible rfl))
          simp only [Act.put, List.setIfInBounds_toArray, List.set_cons_zero, List.set_cons_succ]
          refine wpAnyH_take (i := 8) (oi := ⟨some 4, _, _, _, _, _⟩) (v := ?_) rfl (by kernel_rfl) (by kernel_rfl) (by kernel_rfl) (fun _ _ _ h => h) (Or.inl ⟨by rfl, ?_⟩) (by assumption) ?_
          rotate_left
          · (intro w hSw; (try dsimp only at hSw); go_simp; (try with_reducible rfl))
          simp only [Act.put, List.setIfInBounds_toArray, List.set_cons_zero, List.set_cons_succ]
          refine wpAnyH_done (by kernel_rfl) ?_ _
          clear hHeld
          go_wp2_with fail
          refine bodyPost_ret (results_blk_tmps rfl rfl (HRES.out.drew.setCells (csA []) rfl) Tryd.underlying53 rfl (by kernel_rfl)) rfl ?_
          rw [HBAD.out]
          change CfgOut (cfg0, (k : Int) + 1, 4) w (.returned (.tuple #[.agg (csA []), .int .i64 ((k : Int) + 1), .int .i64 4])) _
          exact cfgOut_bad' ((k : Int) + 1) 4 (Blk.Below.setCells _ _ _ HBEL.out.drew (Nat.le_refl _))
        · have HBOX := Lib.hid (hbox.below hb6 HS4.out.box.lt)
          have HPL := Lib.hid (part_len ho)
          have HGO := Lib.hid (show goF (hdL.drop (k + 1)) (k + 1) (zs ++ [ns]) (y :: t) = readF l by rw [← HS4.out.go, go_ok hk3 _ ho])
          have HT := Lib.hid (took_any w1.heap.size k x y t w6 (HM1.out.below (n := 0) HBE.out) HRD.out)
          have HZL := Lib.hid HS4.out.len
          clear ho hc hb6 HS4 hbox
          simp only [if_true]
          go_wp2_with fail
          refine HT.out.mono ?_
          rintro e w7 ⟨rfl, hr7, hc7⟩
          have HN := Lib.hid (show HdS w1 u l (k + 1) (zs ++ [ns]) (y :: t) w7 from HdS.next HZL.out hk3 HPL.out HBOX.out HNU.out HBE.out HGO.out hr7 HRD.out.box rfl hc7)
          clear hr7 hc7
          go_wp2_with fail
          go_roundw
          case rel => exact ⟨k + 1, zs ++ [ns], y :: t, by omega, by go_num, HN.out⟩
          case measure => simp [intOf]; omega
    · obtain rfl : k = 3 := by omega
      have HGO := Lib.hid (show readF l = bodyF (zs.getD 0 []) (zs.getD 1 []) (zs.getD 2 []) ps from HS.out.go.symm)
      have HJ := Lib.hid (show JC w1 w1.heap.size (w1.heap.size + 1) (hdC zs) [] [] wr from ⟨.slice none 0 0, .slice none 0 0, HS.out.box, World.ownsRow_nil _ _ _ _, World.ownsRow_nil _ _ _ _, fun h => (by cases h), fun h => (by cases h), by omega⟩)
      have HA := Lib.hid (all_any rowF 90 #[.pointer (some ⟨w1.heap.size + 1, 0, none⟩)] HG2.out w1 HM1.out w1.heap.size (Nat.le_refl _) (fun t W => JC w1 w1.heap.size (w1.heap.size + 1) (hdC zs) t [] W)
        (fun r W W' hj hb hc => hj.chg hc) (fun line r W h1 h2 hj hb => take2_any line h1 w1 HM1.out _ _ _ r [] W hj hb h2 hj.lt (Nat.le_succ _)) ps 3 [] wr HS.out.rd HJ.out HS.out.bel (by have := HS.out.rd.few; simp; omega))
      clear HS HJ
      go_wp2_with fail
      refine HA.out.mono ?_
      clear HA
      rintro e w4 ⟨rfl, hr4, hj4, hb4⟩
      have HE := Lib.hid (show readF l = endF (zs.getD 0 []) (zs.getD 1 []) (zs.getD 2 []) (takeG rowF ps).1 (takeG symF (takeG rowF ps).2) from HGO.out)
      rw [List.nil_append] at hj4
      clear HGO
      generalize (takeG rowF ps).1 = t at hr4 hj4 HE
      generalize (takeG rowF ps).2 = qs at hr4 HE
      have HR4 := Lib.hid hr4
      have HA := Lib.hid (all_any symF 91 #[.pointer (some ⟨w1.heap.size + 1, 0, none⟩)] HG3.out w1 HM1.out w1.heap.size (Nat.le_refl _) (fun s W => JC w1 w1.heap.size (w1.heap.size + 1) (hdC zs) t s W)
        (fun r W W' hj hb hc => hj.chg hc) (fun line r W h1 h2 hj hb => take3_any line h1 w1 HM1.out _ _ _ t r W hj hb h2 hj.lt (Nat.le_succ _)) qs (3 + t.length) [] w4 HR4.out hj4 hb4 (by have := HR4.out.few; simp; omega))
      clear hr4 hj4 hb4
      go_wp2_with fail
      refine HA.out.mono ?_
      clear HA HR4
      rintro e w5 ⟨rfl, hr5, hj5, hb5⟩
      rw [List.nil_append] at hj5
      generalize (takeG symF qs) = y at hr5 hj5 HE
      obtain ⟨s, qs5⟩ := y
      have HRD := Lib.hid hr5
      have HJ5 := Lib.hid hj5
      have HBE := Lib.hid hb5
      have HRES := Lib.hid (HR1.out.below hb5 HR1.out.lt)
      have HBEL := Lib.hid (HB1.out.trans (hb5.mono HB1.out.size))
      have c0 : w5.cell? ⟨w1.heap.size, 0, none⟩ = some (.string (strB (joinW 10 qs5))) := hr5.box.cell 0 rfl
      clear hr5 hj5 hb5
      by_cases hq : qs5 = [[]]
      · have b1 : (strB []).toList = [] := by rw [ByteArray.toList_eq, strB_list]
        have e0 : joinW 10 qs5 = [] := by rw [hq]; rfl
        rw [e0] at c0
        clear e0
        obtain ⟨vs, vt, hkA⟩ := HJ5.out
        obtain ⟨sa, ta, sc, tc, hcs, hin⟩ := cfgA_in hkA
        have HKA := Lib.hid hkA
        have HEE := Lib.hid (show readF l = if (checkF (cfgL (zs.getD 0 []) (zs.getD 1 []) (zs.getD 2 []) t s)).1 = 0 then .good (cfgL (zs.getD 0 []) (zs.getD 1 []) (zs.getD 2 []) t s) else .wrong (checkF (cfgL (zs.getD 0 []) (zs.getD 1 []) (zs.getD 2 []) t s)).1 by rw [HE.out, endF, if_pos hq])
        have HIN := Lib.hid hin
        have HBX := hkA.box
        rw [hcs] at HBX
        change Blk w5 (w1.heap.size + 1) (Cfg.cells (cfgL (zs.getD 0 []) (zs.getD 1 []) (zs.getD 2 []) t s) sa ta sc tc) _ at HBX
        change Hid (∀ W' : World, _ → _ → Cfg.In (cfgL (zs.getD 0 []) (zs.getD 1 []) (zs.getD 2 []) t s) W' sa ta) at HIN
        generalize cfgL (zs.getD 0 []) (zs.getD 1 []) (zs.getD 2 []) t s = c at HEE HIN HBX
        have HX := Lib.hid HBX
        have HCK := Lib.hid (check_any c sa ta sc tc w5 (HIN.out w5 hkA.rs hkA.rt))
        have b3 : ((strB []).toList == []) = true := by rw [b1]; rfl
        clear hkA hcs hin HBX hq HJ5 HE
        go_wp2_with (refine load_blk (by rfl) 53 _ (by rfl) (w1.heap.size + 1) (by rfl) _ _ HX.out _ Tryd.underlying53 rfl (by kernel_rfl) ?_)
        refine HCK.out.mono ?_
        clear HCK
        rintro e w6 ⟨rfl, hb6⟩
        have HX6 := Lib.hid (HX.out.below hb6 HX.out.lt)
        have HRES6 := Lib.hid (HRES.out.below hb6 HRES.out.lt)
        have HKA6 := Lib.hid (HKA.out.below hb6)
        have HBEL6 := Lib.hid (HBEL.out.trans (hb6.mono HBEL.out.size))
        clear hb6 HX HRES HKA HBEL
        by_cases hf : (checkF c).1 = 0
        · rw [if_pos hf] at HEE
          rw [hf]
          clear hf
          have hone : (c.cells sa ta sc tc).all (·.oneCell') = true := by simp [Cfg.cells, Value.oneCell']
          go_wp2_with (first
            | (refine load_blk (by rfl) 53 _ (by rfl) (w1.heap.size + 1) (by rfl) _ _ HX6.out _ Tryd.underlying53 rfl (by kernel_rfl) ?_)
            | (refine store_blk (by rfl) 53 _ _ (by rfl) w.heap.size (by rfl) _ (c.cells sa ta sc tc) 53 HRES6.out (by rfl) rfl (by kernel_rfl) hone ?_))
          refine bodyPost_ret (results_blk_tmps rfl rfl (HRES6.out.setCells (c.cells sa ta sc tc) rfl) Tryd.underlying53 rfl (by kernel_rfl)) rfl ?_
          rw [HEE.out]
          refine ⟨sa, ta, sc, tc, rfl, ?_, Blk.Below.setCells _ _ _ HBEL6.out (Nat.le_refl _)⟩
          exact HIN.out _ (HKA6.out.other HRES6.out _ 0).1 (HKA6.out.other HRES6.out _ 0).2
        · rw [if_neg hf] at HEE
          have b4 : ((checkF c).1 != 0) = true := by simpa using hf
          clear hf
          generalize (checkF c).1 = f at b4 HEE
          go_wp2_with (refine store_blk (by rfl) 53 _ _ (by rfl) w.heap.size (by rfl) _ (csA []) 53 HRES6.out (by rfl) rfl (by kernel_rfl) (by simp [csA, cfgV, Value.oneCell']) ?_)
          refine bodyPost_ret (results_blk_tmps rfl rfl (HRES6.out.setCells (csA []) rfl) Tryd.underlying53 rfl (by kernel_rfl)) rfl ?_
          rw [HEE.out]
          change CfgOut (cfg0, 0, f) w (.returned (.tuple #[.agg (csA []), .int .i64 0, .int .i64 f])) _
          exact cfgOut_bad' 0 f (Blk.Below.setCells _ _ _ HBEL6.out (Nat.le_refl _))
      · have hne : joinW 10 qs5 ≠ [] := fun h => hq (empty_join HRD.out.ne h)
        have HBAD := Lib.hid (show resF (readF l) = (cfg0, (3 : Int) + t.length + s.length + 1, 4) by rw [HE.out, endF, if_neg hq]; simp [resF])
        have hfew := HRD.out.few
        generalize joinW 10 qs5 = z at c0 hne
        have b1 : ((strB z).toList == []) = false := by rw [ByteArray.toList_eq, strB_list]; simpa using hne
        have b2 : ((strB z).toList.isEmpty) = false := by rw [ByteArray.toList_eq, strB_list]; simpa using hne
        clear hne
        go_upto_region 14 with fail
        have q3 : IntKind.i64.wrap (((3 : Int) + t.length + s.length) + 1) = ((3 : Int) + t.length + s.length) + 1 := IntWalk.i64_in _ (by omega)
        refine wp_region_held_drew (S := (fun w' => w'.cell? ⟨w1.heap.size, 1, none⟩ = some (.int .i64 ((3 : Int) + t.length + s.length)))) (by kernel_rfl) (HRD.out.box.cell 1 rfl) (fun hHeld => ?_)
        refine wpAnyH_take (i := 0) (oi := ⟨some 52, _, _, _, _, _⟩) (v := ?_) rfl (by kernel_rfl) (by kernel_rfl) (by kernel_rfl) (fun _ _ _ h => h) (Or.inl ⟨by rfl, ?_⟩) (by assumption) ?_
        rotate_left
        · (intro w hSw; (try dsimp only at hSw); go_simp; (try with_reducible rfl))
        simp only [Act.put, List.setIfInBounds_toArray, List.set_cons_zero, List.set_cons_succ]
        refine wpAnyH_take (i := 1) (oi := ⟨some 53, _, _, _, _, _⟩) (v := ?_) rfl (by kernel_rfl) (by kernel_rfl) (by kernel_rfl) (fun _ _ _ h => h) (Or.inl ⟨by rfl, ?_⟩) (by assumption) ?_
        rotate_left
        · (intro w hSw; (try dsimp only at hSw); go_simp; (try with_reducible rfl))
        simp only [Act.put, List.setIfInBounds_toArray, List.set_cons_zero, List.set_cons_succ]
        refine wpAnyH_take (i := 2) (oi := ⟨some 54, _, _, _, _, _⟩) (v := ?_) rfl (by kernel_rfl) (by kernel_rfl) (by kernel_rfl) (fun _ _ _ h => h) (Or.inl ⟨by rfl, ?_⟩) (by assumption) ?_
        rotate_left
        · (intro w hSw; (try dsimp only at hSw); go_simp; (try with_reducible rfl))
        simp only [Act.put, List.setIfInBounds_toArray, List.set_cons_zero, List.set_cons_succ]
        refine wpAnyH_take (i := 3) (oi := ⟨some 55, _, _, _, _, _⟩) (v := ?_) rfl (by kernel_rfl) (by kernel_rfl) (by kernel_rfl) (fun _ _ _ h => h) (Or.inl ⟨by rfl, ?_⟩) (by assumption) ?_
        rotate_left
        · (intro w hSw; (try dsimp only at hSw); go_simp; (try with_reducible rfl))
        simp only [Act.put, List.setIfInBounds_toArray, List.set_cons_zero, List.set_cons_succ]
        refine wpAnyH_take (i := 4) (oi := ⟨some 56, _, _, _, _, _⟩) (v := ?_) rfl (by kernel_rfl) (by kernel_rfl) (by kernel_rfl) (fun _ _ _ h => h) (Or.inl ⟨by rfl, ?_⟩) (by assumption) ?_
        rotate_left
        · (intro w hSw; (try dsimp only at hSw); go_simp; (try with_reducible rfl))
        simp only [Act.put, List.setIfInBounds_toArray, List.set_cons_zero, List.set_cons_succ]
        refine wpAnyH_take (i := 5) (oi := ⟨some 57, _, _, _, _, _⟩) (v := (.int .i64 (((3 : Int) + t.length + s.length) + 1))) rfl (by kernel_rfl) (by kernel_rfl) (by kernel_rfl) (fun _ _ _ h => h) (Or.inl ⟨by rfl, fun w hSw => by (try dsimp only at hSw); go_simp⟩) (by assumption) ?_
        simp only [Act.put, List.setIfInBounds_toArray, List.set_cons_zero, List.set_cons_succ]
        refine wpAnyH_ready (rs := [6]) (by kernel_rfl) (by simp) ?_
        refine AllReadyH.cons (o := ⟨none, _, _, _, _, _⟩) rfl (fun KK hK => ?_) AllReadyH.nil
        refine step_store_blk (by rfl) 53 _ _ (by rfl) w.heap.size (by rfl) (csA []) (csA []) 53 HRES.out.drew (by rfl) rfl (by kernel_rfl) (by simp [csA, cfgV, Value.oneCell']) ?_
        refine hK.out _ _ ((HRD.out.box.drew.apartAll (csA []).toList 0 _ (by have := HSZ.out; omega)).cell 1 rfl) (fun hHeld => ?_)
        clear hK; try clear KK
        refine wpAnyH_take (i := 7) (oi := ⟨some 3, _, _, _, _, _⟩) (v := ?_) rfl (by kernel_rfl) (by kernel_rfl) (by kernel_rfl) (fun _ _ _ h => h) (Or.inl ⟨by rfl, ?_⟩) (by assumption) ?_
        rotate_left
        · (intro w hSw; (try dsimp only at hSw); go_simp; (try with_reducible rfl))
        simp only [Act.put, List.setIfInBounds_toArray, List.set_cons_zero, List.set_cons_succ]
        refine wpAnyH_take (i := 8) (oi := ⟨some 4, _, _, _, _, _⟩) (v := ?_) rfl (by kernel_rfl) (by kernel_rfl) (by kernel_rfl) (fun _ _ _ h => h) (Or.inl ⟨by rfl, ?_⟩) (by assumption) ?_
        rotate_left
        · (intro w hSw; (try dsimp only at hSw); go_simp; (try with_reducible rfl))
        simp only [Act.put, List.setIfInBounds_toArray, List.set_cons_zero, List.set_cons_succ]
        refine wpAnyH_done (by kernel_rfl) ?_ _
        clear hHeld
        go_wp2_with fail
        refine bodyPost_ret (results_blk_tmps rfl rfl (HRES.out.drew.setCells (csA []) rfl) Tryd.underlying53 rfl (by kernel_rfl)) rfl ?_
        rw [HBAD.out]
        change CfgOut (cfg0, ((3 : Int) + t.length + s.length) + 1, 4) w (.returned (.tuple #[.agg (csA []), .int .i64 (((3 : Int) + t.length + s.length) + 1), .int .i64 4])) _
        exact cfgOut_bad' (((3 : Int) + t.length + s.length) + 1) 4 (Blk.Below.setCells _ _ _ HBEL.out.drew (Nat.le_refl _))
end Go.Proofs.YtmkcooamgojbpaaDoor.Sheet

/- damperref40.head: the first three lines. -/
namespace Go.Proofs.YtmkcooamgojbpaaDoor.Sheet
open Go.RowKit Go.Proofs.YtmkcooamgojbpaaDoor.Kit Go.Proofs.YtmkcooamgojbpaaDoor.Blk Go.Proofs.YtmkcooamgojbpaaDoor.Words Go.Proofs.YtmkcooamgojbpaaDoor.Octets Go.Proofs.YtmkcooamgojbpaaDoor.Lines Go.Proofs.YtmkcooamgojbpaaDoor.Dec Go.Proofs.YtmkcooamgojbpaaDoor.Symbol Go.Proofs.YtmkcooamgojbpaaDoor.Check Go.Proofs.YtmkcooamgojbpaaDoor.Table
attribute [local go_sem ↓] Go.wp_at_zero Go.wp_at_succ
set_option linter.unusedVariables false

theorem go_bad' {k : Nat} (hk : k < 3) (zs : List (List Int)) {x : Txt} (h : partF (hword k) (hgrp k).length x = none) {qs : List Txt} (hq : qs ≠ []) : goF (hdL.drop k) k zs (x :: qs) = .bad (k + 1) := by
  cases qs with
  | nil => exact absurd rfl hq
  | cons y t => exact go_bad hk zs h y t
theorem go_ok' {k : Nat} (hk : k < 3) (zs : List (List Int)) {x : Txt} {ns : List Int} (h : partF (hword k) (hgrp k).length x = some ns) {qs : List Txt} (hq : qs ≠ []) : goF (hdL.drop k) k zs (x :: qs) = goF (hdL.drop (k + 1)) (k + 1) (zs ++ [ns]) qs := by
  cases qs with
  | nil => exact absurd rfl hq
  | cons y t => exact go_ok hk zs h y t
theorem drop_ne (ls : List Txt) (k : Nat) (x : Txt) : ls.drop k ++ [x] ≠ [] := by simp
theorem drop_at {ls : List Txt} {k : Nat} (h : k < ls.length) (x : Txt) : ls.drop k ++ [x] = ls[k] :: (ls.drop (k + 1) ++ [x]) := by
  rw [List.drop_eq_getElem_cons h, List.cons_append]
/-- The numbers' lengths. -/
def HK : List (List Int) → Prop
  | [] => True
  | [a] => a.length = 1
  | [a, b] => a.length = 1 ∧ b.length = 3
  | [a, b, c] => a.length = 1 ∧ b.length = 3 ∧ c.length = 2
  | _ => False
theorem HK.snoc : ∀ {k : Nat} {zs : List (List Int)} {ns : List Int}, k < 3 → zs.length = k → HK zs → ns.length = (hgrp k).length → HK (zs ++ [ns])
  | 0, [], _, _, _, _, h => h
  | 1, [_], _, _, _, h1, h => ⟨h1, h⟩
  | 2, [_, _], _, _, _, h1, h => ⟨h1.1, h1.2, h⟩
theorem HK.le : ∀ {k : Nat} {zs : List (List Int)}, k < 3 → zs.length = k → HK zs → zs.flatten.length ≤ 4
  | 0, [], _, _, _ => by simp
  | 1, [a], _, _, h => by have : a.length = 1 := h; simp; omega
  | 2, [a, b], _, _, h => by have h1 := h.1; have h2 := h.2; simp; omega
theorem HK.form : ∀ {zs : List (List Int)}, zs.length = 3 → HK zs → ∃ q0 q1 q2 q3 q4 q5, zs = [[q0], [q1, q2, q3], [q4, q5]]
  | [a, b, c], _, h => by
    obtain ⟨h1, h2, h3⟩ := h
    match a, h1, b, h2, c, h3 with
    | [q0], _, [q1, q2, q3], _, [q4, q5], _ => exact ⟨q0, q1, q2, q3, q4, q5, rfl⟩
/-- A row of lines. -/
def TxtRow (W : World) (a : Option Addr) (ls : List Txt) : Prop := ∀ i, (h : i < ls.length) → ∃ b, a = some ⟨b, 0, none⟩ ∧ b < W.heap.size ∧ W.cell? ⟨b, i, none⟩ = some (.string (strB ls[i]))
theorem TxtRow.below {W W' : World} {a : Option Addr} {ls : List Txt} (h : TxtRow W a ls) (hb : Below W.heap.size W W') : TxtRow W' a ls := fun i hi => by
  obtain ⟨b, h1, h2, h3⟩ := h i hi
  exact ⟨b, h1, Nat.lt_of_lt_of_le h2 hb.size, by rw [hb.cell (p := ⟨b, i, none⟩) h2]; exact h3⟩
theorem strs_flat : ∀ ls : List Txt, strs ls = ls.flatMap fun m => (#[Value.string (strB m)] : Array Value).toList
  | [] => rfl
  | y :: ls => by rw [List.flatMap_cons, ← strs_flat ls]; rfl
theorem txt_row {n0 : Nat} {W : World} {v : Value} {ls : List Txt} (ho : W.ownsRow n0 9 1 v ls.length (strs ls)) : ∃ a c, v = .slice a ls.length c ∧ TxtRow W a ls := by
  rw [strs_flat] at ho
  obtain ⟨a, c, h1, -, h3⟩ := own_row (fun m : Txt => #[Value.string (strB m)]) 1 (fun _ => rfl) ho
  refine ⟨a, c, h1, fun i hi => ?_⟩
  obtain ⟨b, h4, h5, h6⟩ := h3 W ho i hi
  exact ⟨b, h4, h5, by have := h6 0 _ rfl; rwa [Nat.mul_one, Nat.add_zero] at this⟩
theorem row_chg {n0 C z m T : Nat} {w W : World} {v : Value} {xs : List Value} (h : GL n0 T z w W v m xs) {W' : World} (hc : Chg W.heap.size C W W') (hne : v.ownBlock ≠ some C) : W'.ownsRow n0 T z v m xs :=
  h.own.kept (row := some C) ⟨hc.os, hc.tape, hc.output, hc.size, fun j hj hne => hc.block j hj (fun e => hne (by rw [e]))⟩ (.inr hne)
theorem GL.pushes {n0 T z n m g cap : Nat} {w W W' : World} {v : Value} {xs ys : List Value} (h : GL n0 T z w W v n xs) (hm : 0 < m) (hown : W'.ownsRow n0 T z (.slice (some ⟨g, 0, none⟩) (n + m) cap) (n + m) (xs ++ ys)) (hg : W.grownBy W' v.ownBlock) :
    GL n0 T z w W' (.slice (some ⟨g, 0, none⟩) (n + m) cap) (n + m) (xs ++ ys) :=
  ⟨hown, h.bel.grown hg h.le (fun k e => (h.own.lt k e).1), Nat.le_trans h.le hg.size, fun e => by omega⟩
theorem there_in {W : World} {B T : Nat} {cs : Array Value} (h : Blk W B cs T) (o n : Nat) (hn : o + n ≤ cs.size) : W.there B o n := fun j hj => by
  have := h.there (o + j) (by omega)
  simpa using this
/-- What head answers. -/
def HeadIs (l : Txt) (ls : List Txt) (x : Txt) (C : Nat) (w : World) (e : Ending) (W : World) : Prop :=
  Chg w.heap.size C w W ∧ ((∃ n : Int, 0 < n ∧ n ≤ 3 ∧ e = .returned (.int .i64 n) ∧ resF (readF l) = (cfg0, n, 4)) ∨
    ∃ zs, e = .returned (.int .i64 0) ∧ Blk W C (csA zs) 53 ∧ 3 ≤ ls.length ∧ readF l = bodyF (zs.getD 0 []) (zs.getD 1 []) (zs.getD 2 []) (ls.drop 3 ++ [x]))
set_option maxRecDepth 20000 in
set_option maxHeartbeats 2000000 in
theorem rhead_any (l : Txt) (hl : l.length ≤ 90000) (ls : List Txt) (x : Txt) (hcut : cutW 10 l = ls ++ [x]) (a : Option Addr) (c C : Nat) (w : World) (hr : TxtRow w a ls) (hb : Blk w C (csA []) 53) :
    Calls Tryd.prog 94 #[.slice a ls.length c, .pointer (some ⟨C, 0, none⟩)] w (HeadIs l ls x C w) := by
  obtain ⟨i0, hi0, hz0, hz1, hz2⟩ := info_parts infoI64
  have hlen : ls.length ≤ 90000 := by
    have h1 := cut_len 10 l
    rw [hcut] at h1
    have h2 := List.count_le_length (a := (10 : UInt8)) (l := l)
    simp at h1
    omega
  have HLB := Lib.hid (fun i (hi : i < ls.length) => show ls[i].length ≤ l.length from cut_bytes 10 l _ (by rw [hcut]; exact List.mem_append_left _ (List.getElem_mem hi)))
  have HL := Lib.hid hl
  have HG0 := Lib.hid (show goF (hdL.drop 0) 0 [] (ls.drop 0 ++ [x]) = readF l by rw [read_go, hcut]; rfl)
  have HX := Lib.hid ((Blk.new w #[.int .i64 1, .int .i64 3, .int .i64 2] 3 w.heap.size rfl).old (.cells #[.string (strB wIndex), .string (strB wFalls), .string (strB wHalts)] 9))
  have HY := Lib.hid (Blk.new (w.alloc (.cells #[.int .i64 1, .int .i64 3, .int .i64 2] 3)) #[.string (strB wIndex), .string (strB wFalls), .string (strB wHalts)] 9 (w.heap.size + 1) (by simp))
  have HW := Lib.hid (show Below w.heap.size w ((w.alloc (.cells #[.int .i64 1, .int .i64 3, .int .i64 2] 3)).alloc (.cells #[.string (strB wIndex), .string (strB wFalls), .string (strB wHalts)] 9)) from ((Below.refl _ _).alloc (Nat.le_refl _) _).alloc (by simp) _)
  have HR := Lib.hid (hr.below HW.out)
  have HB := Lib.hid (hb.below HW.out hb.lt)
  have HCW := Lib.hid hb.lt
  clear hr hb hcut hl
  go_enter Tryd.func94, Tryd.ntmps94
  go_wp2_with fail
  change Code.wp _ _ _ _ ((w.alloc (.cells #[.int .i64 1, .int .i64 3, .int .i64 2] 3)).alloc (.cells #[.string (strB wIndex), .string (strB wFalls), .string (strB wHalts)] 9))
  generalize (w.alloc (.cells #[.int .i64 1, .int .i64 3, .int .i64 2] 3)).alloc (.cells #[.string (strB wIndex), .string (strB wFalls), .string (strB wHalts)] 9) = w2 at HX HY HW HR HB ⊢
  have HMN := Lib.hid (show ∀ k, k < 3 → w2.cell? ⟨w.heap.size, k, none⟩ = some (.int .i64 ((hgrp k).length : Int)) from fun k hk => by
    have : k = 0 ∨ k = 1 ∨ k = 2 := by omega
    rcases this with rfl | rfl | rfl <;> exact HX.out.cell _ rfl)
  have HWD := Lib.hid (show ∀ k, k < 3 → w2.cell? ⟨w.heap.size + 1, k, none⟩ = some (.string (strB (hword k))) from fun k hk => by
    have : k = 0 ∨ k = 1 ∨ k = 2 := by omega
    rcases this with rfl | rfl | rfl <;> exact HY.out.cell _ rfl)
  have HLT := Lib.hid (And.intro HX.out.lt HY.out.lt)
  clear HX HY
  go_loopw [7, 8] (fun v i wr => ∃ k zs, k ≤ 3 ∧ k ≤ ls.length ∧ i = .int .i64 ((k : Nat) : Int) ∧ zs.length = k ∧ HK zs ∧ goF (hdL.drop k) k zs (ls.drop k ++ [x]) = readF l ∧ GL w2.heap.size 2 1 w2 wr v zs.flatten.length (intsV zs.flatten)) (fun _ i _ => 3 - (intOf i).toNat)
  case atStart => exact ⟨0, [], by omega, by omega, rfl, rfl, trivial, HG0.out, GL.start _ _ _ (Below.refl _ _) (Nat.le_refl _)⟩
  case round =>
    obtain ⟨k, zs, hk, hkl, rfl, hzl, hzk, hgo, hgl⟩ := hrel
    have HGO := Lib.hid hgo
    obtain ⟨fl, hfl⟩ : ∃ fl, fl = zs.flatten := ⟨_, rfl⟩
    obtain ⟨m, hm⟩ : ∃ m, m = fl.length := ⟨_, rfl⟩
    rw [← hfl, ← hm] at hgl
    have HG := Lib.hid hgl
    have HFL := Lib.hid (And.intro hfl hm)
    obtain ⟨va, vc, rfl⟩ : ∃ a c, u7 = .slice a m c := by
      rcases hgl.own.2 with ⟨rfl, h⟩ | ⟨g, cap, cur, rfl, _⟩
      · exact ⟨_, _, by rw [show m = 0 from h]⟩
      · exact ⟨_, _, rfl⟩
    clear hfl hm
    clear hgl hgo HG0
    by_cases hk3 : k < 3
    · have hk4 : (k : Int) < 3 := by omega
      have q3 : IntKind.i64.wrap ((k : Int) + 1) = (k : Int) + 1 := IntWalk.i64_in _ (by omega)
      by_cases hlt : k < ls.length
      · have hkl' : ¬ (ls.length : Int) ≤ (k : Int) := by omega
        obtain ⟨b, rfl, hbl, hbc⟩ := (HR.out.below HG.out.bel) k hlt
        have cm : wr.cell? ⟨w.heap.size, k, none⟩ = some (.int .i64 ((hgrp k).length : Int)) := by rw [HG.out.bel.cell (p := ⟨w.heap.size, k, none⟩) HLT.out.1]; exact HMN.out k hk3
        have cw : wr.cell? ⟨w.heap.size + 1, k, none⟩ = some (.string (strB (hword k))) := by rw [HG.out.bel.cell (p := ⟨w.heap.size + 1, k, none⟩) HLT.out.2]; exact HWD.out k hk3
        have HNU := Lib.hid (numbers_any (hword k) ls[k] (by have := HLB.out k hlt; have := HL.out; omega) (hgrp k).length (by have := (hgrp_len k hk3).2; omega) wr.drew)
        go_upto_region 9 with fail
        refine wp_region_held_drew (S := (fun w' => w'.cell? ⟨b, k, none⟩ = some (.string (strB ls[k])) ∧ w'.cell? ⟨w.heap.size + 1, k, none⟩ = some (.string (strB (hword k))) ∧ w'.cell? ⟨w.heap.size, k, none⟩ = some (.int .i64 ((hgrp k).length : Int)))) (by kernel_rfl) (⟨hbc, cw, cm⟩) (fun hHeld => ?_)
        refine wpAnyH_take (i := 0) (oi := ⟨some 24, _, _, _, _, _⟩) (v := ?_) rfl (by kernel_rfl) (by kernel_rfl) (by kernel_rfl) (fun _ _ _ h => h) (Or.inl ⟨by rfl, ?_⟩) (by assumption) ?_
        rotate_left
        · (intro w hSw; (try dsimp only at hSw); go_simp; (try with_reducible rfl))
        simp only [Act.put, List.setIfInBounds_toArray, List.set_cons_zero, List.set_cons_succ]
        refine wpAnyH_take (i := 1) (oi := ⟨some 25, _, _, _, _, _⟩) (v := ?_) rfl (by kernel_rfl) (by kernel_rfl) (by kernel_rfl) (fun _ _ _ h => h) (Or.inl ⟨by rfl, ?_⟩) (by assumption) ?_
        rotate_left
        · (intro w hSw; (try dsimp only at hSw); go_simp; (try with_reducible rfl))
        simp only [Act.put, List.setIfInBounds_toArray, List.set_cons_zero, List.set_cons_succ]
        refine wpAnyH_take (i := 2) (oi := ⟨some 26, _, _, _, _, _⟩) (v := ?_) rfl (by kernel_rfl) (by kernel_rfl) (by kernel_rfl) (fun _ _ _ h => h) (Or.inl ⟨by rfl, ?_⟩) (by assumption) ?_
        rotate_left
        · (intro w hSw; (try dsimp only at hSw); go_simp; (try with_reducible rfl))
        simp only [Act.put, List.setIfInBounds_toArray, List.set_cons_zero, List.set_cons_succ]
        refine wpAnyH_take (i := 3) (oi := ⟨some 27, _, _, _, _, _⟩) (v := ?_) rfl (by kernel_rfl) (by kernel_rfl) (by kernel_rfl) (fun _ _ _ h => h) (Or.inl ⟨by rfl, ?_⟩) (by assumption) ?_
        rotate_left
        · (intro w hSw; (try dsimp only at hSw); go_simp; (try with_reducible rfl))
        simp only [Act.put, List.setIfInBounds_toArray, List.set_cons_zero, List.set_cons_succ]
        refine wpAnyH_take (i := 4) (oi := ⟨some 28, _, _, _, _, _⟩) (v := ?_) rfl (by kernel_rfl) (by kernel_rfl) (by kernel_rfl) (fun _ _ _ h => h) (Or.inl ⟨by rfl, ?_⟩) (by assumption) ?_
        rotate_left
        · (intro w hSw; (try dsimp only at hSw); go_simp; (try with_reducible rfl))
        simp only [Act.put, List.setIfInBounds_toArray, List.set_cons_zero, List.set_cons_succ]
        refine wpAnyH_take (i := 5) (oi := ⟨some 29, _, _, _, _, _⟩) (v := ?_) rfl (by kernel_rfl) (by kernel_rfl) (by kernel_rfl) (fun _ _ _ h => h) (Or.inl ⟨by rfl, ?_⟩) (by assumption) ?_
        rotate_left
        · (intro w hSw; (try dsimp only at hSw); go_simp; (try with_reducible rfl))
        simp only [Act.put, List.setIfInBounds_toArray, List.set_cons_zero, List.set_cons_succ]
        refine wpAnyH_take (i := 6) (oi := ⟨some 30, _, _, _, _, _⟩) (v := ?_) rfl (by kernel_rfl) (by kernel_rfl) (by kernel_rfl) (fun _ _ _ h => h) (Or.inl ⟨by rfl, ?_⟩) (by assumption) ?_
        rotate_left
        · (intro w hSw; (try dsimp only at hSw); go_simp; (try with_reducible rfl))
        simp only [Act.put, List.setIfInBounds_toArray, List.set_cons_zero, List.set_cons_succ]
        refine wpAnyH_take (i := 7) (oi := ⟨some 31, _, _, _, _, _⟩) (v := ?_) rfl (by kernel_rfl) (by kernel_rfl) (by kernel_rfl) (fun _ _ _ h => h) (Or.inl ⟨by rfl, ?_⟩) (by assumption) ?_
        rotate_left
        · (intro w hSw; (try dsimp only at hSw); go_simp; (try with_reducible rfl))
        simp only [Act.put, List.setIfInBounds_toArray, List.set_cons_zero, List.set_cons_succ]
        refine wpAnyH_take (i := 8) (oi := ⟨some 32, _, _, _, _, _⟩) (v := ?_) rfl (by kernel_rfl) (by kernel_rfl) (by kernel_rfl) (fun _ _ _ h => h) (Or.inl ⟨by rfl, ?_⟩) (by assumption) ?_
        rotate_left
        · (intro w hSw; (try dsimp only at hSw); go_simp; (try with_reducible rfl))
        simp only [Act.put, List.setIfInBounds_toArray, List.set_cons_zero, List.set_cons_succ]
        refine wpAnyH_take (i := 9) (oi := ⟨some 33, _, _, _, _, _⟩) (v := ?_) rfl (by kernel_rfl) (by kernel_rfl) (by kernel_rfl) (fun _ _ _ h => h) (Or.inl ⟨by rfl, ?_⟩) (by assumption) ?_
        rotate_left
        · (intro w hSw; (try dsimp only at hSw); go_simp; (try with_reducible rfl))
        simp only [Act.put, List.setIfInBounds_toArray, List.set_cons_zero, List.set_cons_succ]
        refine wpAnyH_take (i := 10) (oi := ⟨some 34, _, _, _, _, _⟩) (v := ?_) rfl (by kernel_rfl) (by kernel_rfl) (by kernel_rfl) (fun _ _ _ h => h) (Or.inl ⟨by rfl, ?_⟩) (by assumption) ?_
        rotate_left
        · (intro w hSw; (try dsimp only at hSw); go_simp; (try with_reducible rfl))
        simp only [Act.put, List.setIfInBounds_toArray, List.set_cons_zero, List.set_cons_succ]
        refine wpAnyH_take (i := 11) (oi := ⟨some 35, _, _, _, _, _⟩) (v := ?_) rfl (by kernel_rfl) (by kernel_rfl) (by kernel_rfl) (fun _ _ _ h => h) (Or.inl ⟨by rfl, ?_⟩) (by assumption) ?_
        rotate_left
        · (intro w hSw; (try dsimp only at hSw); go_simp; (try with_reducible rfl))
        simp only [Act.put, List.setIfInBounds_toArray, List.set_cons_zero, List.set_cons_succ]
        refine wpAnyH_ready (rs := [12]) (by kernel_rfl) (by simp) ?_
        refine AllReadyH.cons (o := ⟨some 36, _, _, _, _, _⟩) rfl (fun KK hK => ?_) AllReadyH.nil
        go_simp
        have HG1 := Lib.hid HG.out.drew
        have HM4 := Lib.hid (show m ≤ 4 by rw [HFL.out.2, HFL.out.1]; exact HK.le hk3 hzl hzk)
        have HDR := Lib.hid (drop_at hlt x)
        clear HG
        have HSS := Lib.hid (fun (W' : World) (hb' : Below wr.drew.heap.size wr.drew W') => And.intro ((hb'.cell (p := ⟨b, k, none⟩) hbl).trans hbc) (And.intro ((hb'.cell (p := ⟨w.heap.size + 1, k, none⟩) (Nat.lt_of_lt_of_le HLT.out.2 HG1.out.bel.size)).trans cw) ((hb'.cell (p := ⟨w.heap.size, k, none⟩) (Nat.lt_of_lt_of_le HLT.out.1 HG1.out.bel.size)).trans cm)))
        clear cm cw
        generalize wr.drew = w3 at HNU HG1 hHeld HSS ⊢
        refine HNU.out.mono ?_
        clear HNU
        rintro e w4 (⟨ho, rfl, hb4⟩ | ⟨ns, v, ho, rfl, hg4⟩)
        · have HBAD := Lib.hid (show resF (readF l) = (cfg0, (k : Int) + 1, 4) by rw [← HGO.out, HDR.out, go_bad' hk3 zs ho (drop_ne _ _ _)]; simp [resF])
          have HCH := Lib.hid (show Chg w.heap.size C w w4 from Chg.of (HW.out.trans ((HG1.out.bel.mono HW.out.size).trans (hb4.mono (Nat.le_trans HW.out.size HG1.out.le)))))
          clear ho
          refine hK.out _ _ (HSS.out _ hb4) (fun hHeld => ?_)
          clear hK; try clear KK
          try simp only [Act.put, List.setIfInBounds_toArray, List.set_cons_zero, List.set_cons_succ]
          refine wpAnyH_take (i := 13) (oi := ⟨some 23, _, _, _, _, _⟩) (v := (.tuple #[.slice none 0 0, .bool false])) rfl (by kernel_rfl) (by kernel_rfl) (by kernel_rfl) (fun _ _ _ h => h) (Or.inl ⟨by rfl, fun w hSw => by (try dsimp only at hSw); go_simp⟩) (by assumption) ?_
          simp only [Act.put, List.setIfInBounds_toArray, List.set_cons_zero, List.set_cons_succ]
          refine wpAnyH_take (i := 14) (oi := ⟨some 37, _, _, _, _, _⟩) (v := (.slice none 0 0)) rfl (by kernel_rfl) (by kernel_rfl) (by kernel_rfl) (fun _ _ _ h => h) (Or.inl ⟨by rfl, fun w hSw => by (try dsimp only at hSw); go_simp⟩) (by assumption) ?_
          simp only [Act.put, List.setIfInBounds_toArray, List.set_cons_zero, List.set_cons_succ]
          refine wpAnyH_take (i := 15) (oi := ⟨some 38, _, _, _, _, _⟩) (v := (.bool false)) rfl (by kernel_rfl) (by kernel_rfl) (by kernel_rfl) (fun _ _ _ h => h) (Or.inl ⟨by rfl, fun w hSw => by (try dsimp only at hSw); go_simp⟩) (by assumption) ?_
          simp only [Act.put, List.setIfInBounds_toArray, List.set_cons_zero, List.set_cons_succ]
          refine wpAnyH_take (i := 16) (oi := ⟨some 9, _, _, _, _, _⟩) (v := (.slice none 0 0)) rfl (by kernel_rfl) (by kernel_rfl) (by kernel_rfl) (fun _ _ _ h => h) (Or.inl ⟨by rfl, fun w hSw => by (try dsimp only at hSw); go_simp⟩) (by assumption) ?_
          simp only [Act.put, List.setIfInBounds_toArray, List.set_cons_zero, List.set_cons_succ]
          refine wpAnyH_take (i := 17) (oi := ⟨some 10, _, _, _, _, _⟩) (v := (.bool false)) rfl (by kernel_rfl) (by kernel_rfl) (by kernel_rfl) (fun _ _ _ h => h) (Or.inl ⟨by rfl, fun w hSw => by (try dsimp only at hSw); go_simp⟩) (by assumption) ?_
          simp only [Act.put, List.setIfInBounds_toArray, List.set_cons_zero, List.set_cons_succ]
          refine wpAnyH_done (by kernel_rfl) ?_ _
          clear hb4 hHeld
          go_wp2_with fail
          go_ret
          exact ⟨HCH.out, .inl ⟨(k : Int) + 1, by omega, by omega, rfl, HBAD.out⟩⟩
        · have hpl := part_len ho
          have hpos : 0 < ns.length := by rw [hpl]; exact (hgrp_len k hk3).1
          obtain ⟨g4, cp4, rfl, -⟩ := World.ownsRow.form hg4.own hpos
          have HGO' := Lib.hid (show goF (hdL.drop (k + 1)) (k + 1) (zs ++ [ns]) (ls.drop (k + 1) ++ [x]) = readF l by rw [← HGO.out, HDR.out, go_ok' hk3 zs ho (drop_ne _ _ _)])
          have HZK := Lib.hid (HK.snoc hk3 hzl hzk hpl)
          have HG4 := Lib.hid (HG1.out.below hg4.bel)
          have HNEW := Lib.hid (show ∀ j u, (intsV ns)[j]? = some u → w4.cell? ((⟨g4, 0, none⟩ : Addr).add j) = some u from fun j u hu => World.ownsRow.cells hg4.own rfl j u hu)
          have HN4 := Lib.hid (And.intro hpos (show ns.length ≤ 100 by rw [hpl]; exact (hgrp_len k hk3).2))
          have HNX := Lib.hid (show (zs ++ [ns]).flatten = fl ++ ns by rw [HFL.out.1]; simp)
          have HML := Lib.hid (show (fl ++ ns).length = m + ns.length by rw [List.length_append, HFL.out.2])
          have HIV := Lib.hid (show intsV (fl ++ ns) = intsV fl ++ intsV ns by simp [intsV])
          have HZ2 := Lib.hid (show (zs ++ [ns]).length = k + 1 by simp [hzl])
          clear ho hpl hpos hzk HG1
          refine hK.out _ _ (HSS.out _ hg4.bel) (fun hHeld => ?_)
          clear hK; try clear KK
          try simp only [Act.put, List.setIfInBounds_toArray, List.set_cons_zero, List.set_cons_succ]
          refine wpAnyH_take (i := 13) (oi := ⟨some 23, _, _, _, _, _⟩) (v := (.tuple #[.slice (some ⟨g4, 0, none⟩) ns.length cp4, .bool true])) rfl (by kernel_rfl) (by kernel_rfl) (by kernel_rfl) (fun _ _ _ h => h) (Or.inl ⟨by rfl, fun w hSw => by (try dsimp only at hSw); go_simp⟩) (by assumption) ?_
          simp only [Act.put, List.setIfInBounds_toArray, List.set_cons_zero, List.set_cons_succ]
          refine wpAnyH_take (i := 14) (oi := ⟨some 37, _, _, _, _, _⟩) (v := (.slice (some ⟨g4, 0, none⟩) ns.length cp4)) rfl (by kernel_rfl) (by kernel_rfl) (by kernel_rfl) (fun _ _ _ h => h) (Or.inl ⟨by rfl, fun w hSw => by (try dsimp only at hSw); go_simp⟩) (by assumption) ?_
          simp only [Act.put, List.setIfInBounds_toArray, List.set_cons_zero, List.set_cons_succ]
          refine wpAnyH_take (i := 15) (oi := ⟨some 38, _, _, _, _, _⟩) (v := (.bool true)) rfl (by kernel_rfl) (by kernel_rfl) (by kernel_rfl) (fun _ _ _ h => h) (Or.inl ⟨by rfl, fun w hSw => by (try dsimp only at hSw); go_simp⟩) (by assumption) ?_
          simp only [Act.put, List.setIfInBounds_toArray, List.set_cons_zero, List.set_cons_succ]
          refine wpAnyH_take (i := 16) (oi := ⟨some 9, _, _, _, _, _⟩) (v := (.slice (some ⟨g4, 0, none⟩) ns.length cp4)) rfl (by kernel_rfl) (by kernel_rfl) (by kernel_rfl) (fun _ _ _ h => h) (Or.inl ⟨by rfl, fun w hSw => by (try dsimp only at hSw); go_simp⟩) (by assumption) ?_
          simp only [Act.put, List.setIfInBounds_toArray, List.set_cons_zero, List.set_cons_succ]
          refine wpAnyH_take (i := 17) (oi := ⟨some 10, _, _, _, _, _⟩) (v := (.bool true)) rfl (by kernel_rfl) (by kernel_rfl) (by kernel_rfl) (fun _ _ _ h => h) (Or.inl ⟨by rfl, fun w hSw => by (try dsimp only at hSw); go_simp⟩) (by assumption) ?_
          simp only [Act.put, List.setIfInBounds_toArray, List.set_cons_zero, List.set_cons_succ]
          refine wpAnyH_done (by kernel_rfl) ?_ _
          clear hg4 hHeld
          go_wp2_with (at_builtin; refine wpList_append_lies _ (by rfl) _ _ _ (by rfl) w2.heap.size 2 i0 (.int .i64 0) 1 8 Tryd.underlying37 hi0 hz0 hz1 hz2 rfl (by decide) _ m (intsV fl) (by rfl) HG4.out.own ⟨g4, 0, none⟩ ns.length cp4 (intsV ns) (by rfl) (by rw [intsV_len]; omega) HNEW.out (by simp [intsV, Value.oneCell']) HN4.out.1 (by have := HM4.out; have := HN4.out; unfold maxLen; omega) (by have := HM4.out; have := HN4.out; omega) HG4.out.le w4.heap.size rfl ?_; intro g cap2 w9 hown9 hgrow9 hat9 hlt9; have H9 := Lib.hid (GL.pushes HG4.out HN4.out.1 hown9 hgrow9); clear hown9 hgrow9 hat9 hlt9)
          go_roundw
          case rel => exact ⟨k + 1, zs ++ [ns], by omega, by omega, by go_num, HZ2.out, HZK.out, HGO'.out, by rw [HNX.out, HML.out, HIV.out]; exact H9.out⟩
          case measure => simp [intOf]; omega
      · obtain rfl : k = ls.length := by omega
        have HBAD := Lib.hid (show resF (readF l) = (cfg0, (ls.length : Int) + 1, 4) by rw [← HGO.out, List.drop_length, List.nil_append, go_one hk3]; simp [resF])
        have HCH := Lib.hid (show Chg w.heap.size C w wr from Chg.of (HW.out.trans (HG.out.bel.mono HW.out.size)))
        go_wp2_with fail
        go_ret
        exact ⟨HCH.out, .inl ⟨(ls.length : Int) + 1, by omega, by omega, rfl, HBAD.out⟩⟩
    · obtain rfl : k = 3 := by omega
      obtain ⟨q0, q1, q2, q3, q4, q5, rfl⟩ := HK.form hzl hzk
      obtain rfl : fl = [q0, q1, q2, q3, q4, q5] := HFL.out.1
      obtain rfl : m = 6 := HFL.out.2
      have ho := HG.out.own
      obtain ⟨g, cp, hv, -⟩ := World.ownsRow.form ho (by decide)
      injection hv with hv1 _ hv3
      subst hv1 hv3
      have hgl := World.ownsRow.lt ho g rfl
      have HGE := Lib.hid (show g < wr.heap.size ∧ g ≠ C from ⟨hgl.2, by have := hgl.1; have := HCW.out; have := HW.out.size; omega⟩)
      have HCE := Lib.hid (fun j (hj : j < 6) => World.ownsRow.cellAt ho j hj)
      have HBC := Lib.hid (HB.out.below HG.out.bel HB.out.lt)
      have HCH := Lib.hid (show Chg w.heap.size C w wr from Chg.of (HW.out.trans (HG.out.bel.mono HW.out.size)))
      have HSZ := Lib.hid (show w.heap.size ≤ wr.heap.size from Nat.le_trans HW.out.size HG.out.le)
      clear ho hgl
      have a0 : wr.cell? ⟨g, 0, none⟩ = some (.int .i64 q0) := HCE.out 0 (by decide)
      have b2 : wr.cell? ⟨C, 2, none⟩ = some (.int .i64 0) := HBC.out.cell 2 rfl
      have f2 := HBC.out.free 2
      go_upto_region 14 with fail
      change Code.wp _ _ _ _ (wr.setCell ⟨C, 2, none⟩ (.int .i64 q0))
      have HB1 := Lib.hid (HBC.out.set 2 (.int .i64 q0))
      have HC1 := Lib.hid ((Chg.refl wr.heap.size C wr).setCell ⟨C, 2, none⟩ (.int .i64 q0) (.inl rfl))
      clear a0 b2 f2
      generalize wr.setCell ⟨C, 2, none⟩ (.int .i64 q0) = w5 at HB1 HC1 ⊢
      have a1 : w5.cell? ⟨g, 1, none⟩ = some (.int .i64 q1) := (HC1.out.cell (p := ⟨g, 1, none⟩) HGE.out.1 HGE.out.2).trans (HCE.out 1 (by decide))
      have a2 : w5.cell? ⟨g, 2, none⟩ = some (.int .i64 q2) := (HC1.out.cell (p := ⟨g, 2, none⟩) HGE.out.1 HGE.out.2).trans (HCE.out 2 (by decide))
      have a3 : w5.cell? ⟨g, 3, none⟩ = some (.int .i64 q3) := (HC1.out.cell (p := ⟨g, 3, none⟩) HGE.out.1 HGE.out.2).trans (HCE.out 3 (by decide))
      refine Go.Proofs.YtmkcooamgojbpaaDoor.Veil.start 13 (by kernel_rfl) (by kernel_rfl) ?_
      simp only [List.take_succ_cons, List.take_zero, List.drop_succ_cons, List.drop_zero]
      (refine Go.Proofs.YtmkcooamgojbpaaDoor.Veil.step (fun K hK => ?_); go_simp; refine hK _ ?_; clear hK K)
      (refine Go.Proofs.YtmkcooamgojbpaaDoor.Veil.step (fun K hK => ?_); go_simp; refine hK _ ?_; clear hK K)
      (refine Go.Proofs.YtmkcooamgojbpaaDoor.Veil.step (fun K hK => ?_); go_simp; refine hK _ ?_; clear hK K)
      (refine Go.Proofs.YtmkcooamgojbpaaDoor.Veil.step (fun K hK => ?_); go_simp; refine hK _ ?_; clear hK K)
      (refine Go.Proofs.YtmkcooamgojbpaaDoor.Veil.step (fun K hK => ?_); go_simp; refine hK _ ?_; clear hK K)
      (refine Go.Proofs.YtmkcooamgojbpaaDoor.Veil.step (fun K hK => ?_); go_simp; refine hK _ ?_; clear hK K)
      (refine Go.Proofs.YtmkcooamgojbpaaDoor.Veil.step (fun K hK => ?_); go_simp; refine hK _ ?_; clear hK K)
      (refine Go.Proofs.YtmkcooamgojbpaaDoor.Veil.step (fun K hK => ?_); go_simp; refine hK _ ?_; clear hK K)
      (refine Go.Proofs.YtmkcooamgojbpaaDoor.Veil.step (fun K hK => ?_); go_simp; refine hK _ ?_; clear hK K)
      (refine Go.Proofs.YtmkcooamgojbpaaDoor.Veil.step (fun K hK => ?_); go_simp; refine hK _ ?_; clear hK K)
      (refine Go.Proofs.YtmkcooamgojbpaaDoor.Veil.step (fun K hK => ?_); go_simp; refine hK _ ?_; clear hK K)
      (refine Go.Proofs.YtmkcooamgojbpaaDoor.Veil.step (fun K hK => ?_); go_simp; refine hK _ ?_; clear hK K)
      (refine Go.Proofs.YtmkcooamgojbpaaDoor.Veil.step (fun K hK => ?_); go_simp; refine hK _ ?_; clear hK K)
      refine Go.Proofs.YtmkcooamgojbpaaDoor.Veil.nil ?_
      change wpList _ _ _ _ _ w5.drew
      have HB2 := Lib.hid HB1.out.drew
      have HC2 := Lib.hid HC1.out.drew
      clear HB1 HC1 a1 a2 a3
      generalize w5.drew = w6 at HB2 HC2 ⊢
      refine wpList_store_mid (by rfl) 50 _ _ (by rfl) C 3 #[.int .i64 q1, .int .i64 q2, .int .i64 q3] (by rfl) (by rfl) (there_in HB2.out 3 3 (by simp [csA, cfgV])) (by kernel_rfl) (by simp [Value.oneCell']) ?_
      have HB3 := Lib.hid (show Blk (w6.setCells C 3 [.int .i64 q1, .int .i64 q2, .int .i64 q3]) C _ _ from ((HB2.out.set 3 (.int .i64 q1)).set 4 (.int .i64 q2)).set 5 (.int .i64 q3))
      have HC3 := Lib.hid (Chg.setCells [.int .i64 q1, .int .i64 q2, .int .i64 q3] 3 w6 HC2.out (.inl rfl))
      generalize w6.setCells C 3 [.int .i64 q1, .int .i64 q2, .int .i64 q3] = w7 at HB3 HC3 ⊢
      clear HB2 HC2
      have a4 : w7.cell? ⟨g, 4, none⟩ = some (.int .i64 q4) := (HC3.out.cell (p := ⟨g, 4, none⟩) HGE.out.1 HGE.out.2).trans (HCE.out 4 (by decide))
      have a5 : w7.cell? ⟨g, 5, none⟩ = some (.int .i64 q5) := (HC3.out.cell (p := ⟨g, 5, none⟩) HGE.out.1 HGE.out.2).trans (HCE.out 5 (by decide))
      go_upto_region 15 with fail
      refine Go.Proofs.YtmkcooamgojbpaaDoor.Veil.start 10 (by kernel_rfl) (by kernel_rfl) ?_
      simp only [List.take_succ_cons, List.take_zero, List.drop_succ_cons, List.drop_zero]
      (refine Go.Proofs.YtmkcooamgojbpaaDoor.Veil.step (fun K hK => ?_); go_simp; refine hK _ ?_; clear hK K)
      (refine Go.Proofs.YtmkcooamgojbpaaDoor.Veil.step (fun K hK => ?_); go_simp; refine hK _ ?_; clear hK K)
      (refine Go.Proofs.YtmkcooamgojbpaaDoor.Veil.step (fun K hK => ?_); go_simp; refine hK _ ?_; clear hK K)
      (refine Go.Proofs.YtmkcooamgojbpaaDoor.Veil.step (fun K hK => ?_); go_simp; refine hK _ ?_; clear hK K)
      (refine Go.Proofs.YtmkcooamgojbpaaDoor.Veil.step (fun K hK => ?_); go_simp; refine hK _ ?_; clear hK K)
      (refine Go.Proofs.YtmkcooamgojbpaaDoor.Veil.step (fun K hK => ?_); go_simp; refine hK _ ?_; clear hK K)
      (refine Go.Proofs.YtmkcooamgojbpaaDoor.Veil.step (fun K hK => ?_); go_simp; refine hK _ ?_; clear hK K)
      (refine Go.Proofs.YtmkcooamgojbpaaDoor.Veil.step (fun K hK => ?_); go_simp; refine hK _ ?_; clear hK K)
      (refine Go.Proofs.YtmkcooamgojbpaaDoor.Veil.step (fun K hK => ?_); go_simp; refine hK _ ?_; clear hK K)
      (refine Go.Proofs.YtmkcooamgojbpaaDoor.Veil.step (fun K hK => ?_); go_simp; refine hK _ ?_; clear hK K)
      refine Go.Proofs.YtmkcooamgojbpaaDoor.Veil.nil ?_
      change wpList _ _ _ _ _ w7.drew
      have HB4 := Lib.hid HB3.out.drew
      have HC4 := Lib.hid HC3.out.drew
      clear HB3 HC3 a4 a5
      generalize w7.drew = w8 at HB4 HC4 ⊢
      refine wpList_store_mid (by rfl) 51 _ _ (by rfl) C 6 #[.int .i64 q4, .int .i64 q5] (by rfl) (by rfl) (there_in HB4.out 6 2 (by simp [csA, cfgV])) (by kernel_rfl) (by simp [Value.oneCell']) ?_
      have HB5 := Lib.hid (show Blk (w8.setCells C 6 [.int .i64 q4, .int .i64 q5]) C _ _ from (HB4.out.set 6 (.int .i64 q4)).set 7 (.int .i64 q5))
      have HC5 := Lib.hid (Chg.setCells [.int .i64 q4, .int .i64 q5] 6 w8 HC4.out (.inl rfl))
      generalize w8.setCells C 6 [.int .i64 q4, .int .i64 q5] = w9 at HB5 HC5 ⊢
      clear HB4 HC4
      go_wp2_with fail
      go_ret
      exact ⟨HCH.out.trans (HC5.out.mono HSZ.out), .inr ⟨[[q0], [q1, q2, q3], [q4, q5]], rfl, HB5.out, hkl, HGO.out.symm⟩⟩
end Go.Proofs.YtmkcooamgojbpaaDoor.Sheet

/- damperref40.Read. -/
namespace Go.Proofs.YtmkcooamgojbpaaDoor.Sheet
open Go.RowKit Go.Proofs.YtmkcooamgojbpaaDoor.Kit Go.Proofs.YtmkcooamgojbpaaDoor.Blk Go.Proofs.YtmkcooamgojbpaaDoor.Words Go.Proofs.YtmkcooamgojbpaaDoor.Octets Go.Proofs.YtmkcooamgojbpaaDoor.Lines Go.Proofs.YtmkcooamgojbpaaDoor.Dec Go.Proofs.YtmkcooamgojbpaaDoor.Symbol Go.Proofs.YtmkcooamgojbpaaDoor.Check Go.Proofs.YtmkcooamgojbpaaDoor.Table
attribute [local go_sem ↓] Go.wp_at_zero Go.wp_at_succ
set_option linter.unusedVariables false

theorem take_no' {α : Type} (p : Txt → Option α) {x : Txt} {qs : List Txt} (h : p x = none) (hq : qs ≠ []) : takeG p (x :: qs) = ([], x :: qs) := by
  cases qs with
  | nil => exact absurd rfl hq
  | cons y t => exact take_no p h
theorem take_yes' {α : Type} (p : Txt → Option α) {x : Txt} {qs : List Txt} {a : α} (h : p x = some a) (hq : qs ≠ []) : takeG p (x :: qs) = (a :: (takeG p qs).1, (takeG p qs).2) := by
  cases qs with
  | nil => exact absurd rfl hq
  | cons y t => exact take_yes p h
theorem end_bad {a b c : List Int} {ps qs rs : List Txt} {t : List (Int × Int)} {s : List Sym} (h1 : takeG rowF ps = (t, qs)) (h2 : takeG symF qs = (s, rs)) (hne : rs ≠ [[]]) :
    resF (bodyF a b c ps) = (cfg0, (((3 + t.length + s.length : Nat)) : Int) + 1, 4) := by
  unfold bodyF
  rw [h1]
  dsimp only
  rw [h2, endF, if_neg hne]
  simp [resF]
theorem end_good {a b c : List Int} {ps qs : List Txt} {t : List (Int × Int)} {s : List Sym} (h1 : takeG rowF ps = (t, qs)) (h2 : takeG symF qs = (s, [[]])) :
    bodyF a b c ps = if (checkF (cfgL a b c t s)).1 = 0 then .good (cfgL a b c t s) else .wrong (checkF (cfgL a b c t s)).1 := by
  unfold bodyF
  rw [h1]
  dsimp only
  rw [h2, endF, if_pos rfl]
/-- Between two lines: the configuration in block C, the row of lines; the result's block R lies below w1. -/
structure RdR (w1 : World) (R C : Nat) (h : Cfg) (v : Value) (ls : List Txt) (t : List (Int × Int)) (s : List Sym) (vs vt : Value) (W : World) : Prop where
  cfg : CfgA w1 R C h t s vs vt W
  own : W.ownsRow w1.heap.size 9 1 v ls.length (strs ls)
  bel : Below w1.heap.size w1 W
  ge : w1.heap.size ≤ C
  lt : R < w1.heap.size
section
variable {w1 W W' : World} {R C : Nat} {h : Cfg} {v : Value} {ls : List Txt} {t : List (Int × Int)} {s : List Sym} {vs vt : Value}
theorem RdR.below (k : RdR w1 R C h v ls t s vs vt W) (hb : Below W.heap.size W W') : RdR w1 R C h v ls t s vs vt W' :=
  ⟨k.cfg.below hb, grown_stay k.own hb, k.bel.trans (hb.mono k.bel.size), k.ge, k.lt⟩
theorem RdR.pushT {vt' : Value} {g H : Nat} {r : Int × Int} (k : RdR w1 R C h v ls t s vs vt W) (hown : W'.ownsRow w1.heap.size 24 2 vt' (t.length + 1) (rowsT t ++ (rowC r).toList))
    (hg : W.grownBy W' vt.ownBlock) (hv' : vt'.ownBlock = some g) (hat : vt.ownBlock = some g ∨ g = H) (hH : w1.heap.size ≤ H) : RdR w1 R C h v ls (t ++ [r]) s vs vt' (W'.setCell ⟨C, 1, none⟩ vt') := by
  have h1 := k.cfg.pushT hown hg hv' hat (by have := k.lt; omega) k.ge k.bel
  have hbox : Blk W' C (cfgV h vs vt) 53 := blk_row' k.cfg.box (by decide) k.cfg.rt hg
  have hs := k.own.kept hg (row_apart k.own k.cfg.rt (by decide))
  exact ⟨h1.1, hs.kept (grown_cell W' C 1 vt') (.inr (row_blk hs hbox (by decide))), h1.2.1, k.ge, k.lt⟩
theorem RdR.pushS {vs' : Value} {g H : Nat} {r : Sym} (k : RdR w1 R C h v ls t s vs vt W) (hown : W'.ownsRow w1.heap.size 29 16 vs' (s.length + 1) (symsT s ++ r.cells.toList))
    (hg : W.grownBy W' vs.ownBlock) (hv' : vs'.ownBlock = some g) (hat : vs.ownBlock = some g ∨ g = H) (hH : w1.heap.size ≤ H) : RdR w1 R C h v ls t (s ++ [r]) vs' vt (W'.setCell ⟨C, 0, none⟩ vs') := by
  have h1 := k.cfg.pushS hown hg hv' hat (by have := k.lt; omega) k.ge k.bel
  have hbox : Blk W' C (cfgV h vs vt) 53 := blk_row' k.cfg.box (by decide) k.cfg.rs hg
  have hs := k.own.kept hg (row_apart k.own k.cfg.rs (by decide))
  exact ⟨h1.1, hs.kept (grown_cell W' C 0 vs') (.inr (row_blk hs hbox (by decide))), h1.2.1, k.ge, k.lt⟩
theorem RdR.at (k : RdR w1 R C h v ls t s vs vt W) : ∃ a c, v = .slice a ls.length c ∧ TxtRow W a ls :=
  txt_row k.own
end
set_option maxRecDepth 20000 in
set_option maxHeartbeats 2000000 in
theorem rread_sheet_any (l : Txt) (hl : l.length ≤ 80000) (w : World) :
    Calls Tryd.prog 34 #[.string (strB l)] w (CfgOut (resF (readF l)) w) := by
  obtain ⟨i0, hi0, hz0, hz1, hz2⟩ := info_parts infoRow
  obtain ⟨j0, hj0, hy0, hy1, hy2⟩ := info_parts infoSy
  have HLN := Lib.hid hl
  obtain ⟨w1, hw1⟩ : ∃ w1, w1 = w.alloc (.cells (csA []) 53) := ⟨_, rfl⟩
  have HR1 := Lib.hid (show Blk w1 w.heap.size (csA []) 53 by rw [hw1]; exact Blk.new _ _ _ _ rfl)
  have HSZ := Lib.hid (show w1.heap.size = w.heap.size + 1 by rw [hw1]; simp)
  have HB1 := Lib.hid (show Below w.heap.size w w1 by rw [hw1]; exact (Below.refl _ _).alloc (Nat.le_refl _) _)
  have HLS := Lib.hid (lines_any l (by omega) w1)
  clear hl
  go_enter Tryd.func34, Tryd.ntmps34
  go_upto_region 1 with fail
  change Code.wp _ _ _ _ (w.alloc (.cells (csA []) 53))
  rw [← hw1]
  clear hw1
  go_wp2_with fail
  refine HLS.out.mono ?_
  clear HLS
  rintro e w2 ⟨v, ls, x, hcut, rfl, hgl⟩
  have HC3 := Lib.hid (Blk.new w2 (csA []) 53 w2.heap.size rfl)
  have HG3 := Lib.hid (hgl.alloc (.cells (csA []) 53))
  have HGE := Lib.hid hgl.le
  obtain ⟨a, c, rfl, htr⟩ := txt_row HG3.out.own
  have HHD := Lib.hid (rhead_any l (by have := HLN.out; omega) ls x hcut a c w2.heap.size _ htr HC3.out)
  have HLB := Lib.hid (fun i (hi : i < ls.length) => show ls[i].length ≤ l.length from cut_bytes 10 l _ (by rw [hcut]; exact List.mem_append_left _ (List.getElem_mem hi)))
  have HLL := Lib.hid (show ls.length ≤ 80000 by
    have h1 := cut_len 10 l
    rw [hcut] at h1
    have h2 := List.count_le_length (a := (10 : UInt8)) (l := l)
    have := HLN.out
    simp at h1
    omega)
  clear hcut hgl htr
  go_wp2_with fail
  refine HHD.out.mono ?_
  clear HHD
  rintro e w4 ⟨hch, hans⟩
  have HBE := Lib.hid (show Below w1.heap.size w1 w4 from HG3.out.bel.trans (hch.below' HGE.out HG3.out.le))
  have HRES := Lib.hid (HR1.out.below HBE.out HR1.out.lt)
  have HBEL := Lib.hid (HB1.out.trans (HBE.out.mono HB1.out.size))
  rcases hans with ⟨n, hn1, hn2, rfl, hbad⟩ | ⟨zs, rfl, hbox, h3, hgo⟩
  · have HBAD := Lib.hid hbad
    clear hbad hch
    go_wp2_with (refine store_blk (by rfl) 53 _ _ (by rfl) w.heap.size (by rfl) _ (csA []) 53 HRES.out (by rfl) rfl (by kernel_rfl) (by simp [csA, cfgV, Value.oneCell']) ?_)
    refine bodyPost_ret (results_blk_tmps rfl rfl (HRES.out.setCells (csA []) rfl) Tryd.underlying53 rfl (by kernel_rfl)) rfl ?_
    rw [HBAD.out]
    change CfgOut (cfg0, n, 4) w (.returned (.tuple #[.agg (csA []), .int .i64 (n), .int .i64 4])) _
    exact cfgOut_bad' (n) 4 (Blk.Below.setCells _ _ _ HBEL.out (Nat.le_refl _))
  · have HST := Lib.hid (show RdR w1 w.heap.size w2.heap.size (hdC zs) (.slice a ls.length c) ls [] [] (.slice none 0 0) (.slice none 0 0) w4 from
      ⟨⟨hbox, World.ownsRow_nil _ _ _ _, World.ownsRow_nil _ _ _ _, fun h => (by cases h), fun h => (by cases h), by have := HGE.out; have := HSZ.out; omega⟩,
        row_chg HG3.out hch (row_blk HG3.out.own HC3.out (by decide)), HBE.out, HGE.out, by have := HSZ.out; omega⟩)
    have HGO := Lib.hid hgo
    clear hbox hgo hch HRES HBEL HBE HG3 HC3
    go_wp2_with fail
    go_loopw [9] (fun i wr => ∃ k t vt, k = 3 + t.length ∧ k ≤ ls.length ∧ i = .int .i64 ((k : Nat) : Int) ∧ RdR w1 w.heap.size w2.heap.size (hdC zs) (.slice a ls.length c) ls t [] (.slice none 0 0) vt wr ∧ takeG rowF (ls.drop 3 ++ [x]) = (t ++ (takeG rowF (ls.drop k ++ [x])).1, (takeG rowF (ls.drop k ++ [x])).2)) (fun i _ => ls.length - (intOf i).toNat)
    case atStart => exact ⟨3, [], _, rfl, h3, rfl, HST.out, rfl⟩
    case round =>
      obtain ⟨k, t, vt, hkt, hkl, rfl, hst, htk⟩ := hrel
      clear HST
      have HST := Lib.hid hst
      have HTK := Lib.hid htk
      have HKT := Lib.hid hkt
      clear hst htk hkt
      have hk2 : (k : Int) ≤ 80000 := by have := HLL.out; omega
      by_cases hlt : k < ls.length
      · obtain ⟨a', c', ha, htr⟩ := HST.out.at
        injection ha with ha1 _ ha2
        subst ha1 ha2
        obtain ⟨b, rfl, hbl, hbc⟩ := htr _ hlt
        have HDR := Lib.hid (drop_at hlt x)
        have HRW := Lib.hid (rrow_any ls[k] (by have := HLB.out k hlt; have := HLN.out; omega) wr)
        unfold RowIs at HRW
        have hk1 : (k : Int) < (ls.length : Int) := by omega
        clear htr
        cases ho : rowF ls[k] with
        | none =>
          have HT := Lib.hid (show takeG rowF (ls.drop 3 ++ [x]) = (t, ls.drop k ++ [x]) by rw [HTK.out, HDR.out, take_no' rowF ho (drop_ne _ _ _)]; simp)
          rw [ho] at HRW
          simp only [Option.getD_none, Option.isSome_none] at HRW
          unfold rowC at HRW
          clear ho HTK
          go_wp2_with fail
          refine HRW.out.mono ?_
          rintro e w6 ⟨rfl, hb6⟩
          have HS6 := Lib.hid ((HST.out.below hb6).below ((Below.refl _ _).alloc (Nat.le_refl _) (.cells (rowC (0, 0)) 24)))
          clear hb6 HST hbl hbc HDR hk1 HRW
          simp only [Bool.false_eq_true, if_false]
          go_upto_region 9 with fail
          change Code.wp _ _ _ _ (w6.alloc (.cells (rowC (0, 0)) 24))
          generalize w6.alloc (.cells (rowC (0, 0)) 24) = w7 at HS6 ⊢
          go_wp2_with fail
          go_loopw [9] (fun i wx => ∃ j s vs, j = k + s.length ∧ j ≤ ls.length ∧ i = .int .i64 ((j : Nat) : Int) ∧ RdR w1 w.heap.size w2.heap.size (hdC zs) (.slice _ ls.length c) ls t s vs vt wx ∧ takeG symF (ls.drop k ++ [x]) = (s ++ (takeG symF (ls.drop j ++ [x])).1, (takeG symF (ls.drop j ++ [x])).2)) (fun i _ => ls.length - (intOf i).toNat)
          case atStart => exact ⟨k, [], _, rfl, hkl, rfl, HS6.out, rfl⟩
          case round =>
            obtain ⟨j, s, vs, hjt, hjl, rfl, hst, htk⟩ := hrel
            clear HS6
            have HST := Lib.hid hst
            have HTS := Lib.hid htk
            have HJT := Lib.hid hjt
            clear hst htk hjt
            have hj2 : (j : Int) ≤ 80000 := by have := HLL.out; omega
            have HRES := Lib.hid (HR1.out.below HST.out.bel HR1.out.lt)
            have HBEL := Lib.hid (HB1.out.trans (HST.out.bel.mono HB1.out.size))
            by_cases hjl2 : j < ls.length
            · obtain ⟨a', c', ha, htr⟩ := HST.out.at
              injection ha with ha1 _ ha2
              subst ha1 ha2
              obtain ⟨b2, hb2e, hbl2, hbc2⟩ := htr _ hjl2
              clear htr
              cases hb2e
              have HDR := Lib.hid (drop_at hjl2 x)
              have HRW := Lib.hid (rsymbol_any ls[j] (by have := HLB.out j hjl2; have := HLN.out; omega) wr)
              unfold SymIs at HRW
              have hj1 : (j : Int) < (ls.length : Int) := by omega
              cases ho : symF ls[j] with
              | none =>
                have HS := Lib.hid (show takeG symF (ls.drop k ++ [x]) = (s, ls.drop j ++ [x]) by rw [HTS.out, HDR.out, take_no' symF ho (drop_ne _ _ _)]; simp)
                have HBAD := Lib.hid (show resF (readF l) = (cfg0, (j : Int) + 1, 4) by rw [HGO.out, end_bad HT.out HS.out (by rw [HDR.out]; simp), HJT.out, HKT.out])
                rw [ho] at HRW
                simp only [Option.getD_none, Option.isSome_none] at HRW
                clear ho HTS HS
                unfold Sym.cells at HRW
                go_wp2_with fail
                refine HRW.out.mono ?_
                rintro e w8 ⟨rfl, hb8⟩
                have HRES8 := Lib.hid ((HRES.out.below hb8 HRES.out.lt).old (.cells zeroSym.cells 29))
                have HBEL8 := Lib.hid ((HBEL.out.trans (hb8.mono HBEL.out.size)).alloc (Nat.le_trans HBEL.out.size hb8.size) (.cells zeroSym.cells 29))
                clear hb8 HST hbl2 hbc2 HDR hj1 HRW HRES HBEL
                simp only [Bool.false_eq_true, if_false]
                go_upto_region 14 with fail
                change Code.wp _ _ _ _ (w8.alloc (.cells zeroSym.cells 29))
                generalize w8.alloc (.cells zeroSym.cells 29) = w9 at HRES8 HBEL8 ⊢
                have HRES := HRES8
                have HBEL := HBEL8
                go_wp2_with (refine store_blk (by rfl) 53 _ _ (by rfl) w.heap.size (by rfl) _ (csA []) 53 HRES.out (by rfl) rfl (by kernel_rfl) (by simp [csA, cfgV, Value.oneCell']) ?_)
                refine bodyPost_ret (results_blk_tmps rfl rfl (HRES.out.setCells (csA []) rfl) Tryd.underlying53 rfl (by kernel_rfl)) rfl ?_
                rw [HBAD.out]
                change CfgOut (cfg0, (j : Int) + 1, 4) w (.returned (.tuple #[.agg (csA []), .int .i64 ((j : Int) + 1), .int .i64 4])) _
                exact cfgOut_bad' ((j : Int) + 1) 4 (Blk.Below.setCells _ _ _ HBEL.out (Nat.le_refl _))
              | some r =>
                have HS := Lib.hid (show takeG symF (ls.drop k ++ [x]) = (s ++ [r] ++ (takeG symF (ls.drop (j + 1) ++ [x])).1, (takeG symF (ls.drop (j + 1) ++ [x])).2) by rw [HTS.out, HDR.out, take_yes' symF ho (drop_ne _ _ _)]; simp)
                rw [ho] at HRW
                simp only [Option.getD_some, Option.isSome_some] at HRW
                unfold Sym.cells at HRW
                clear ho HTS
                go_wp2_with fail
                refine HRW.out.mono ?_
                rintro e w8 ⟨rfl, hb8⟩
                have HS8 := Lib.hid ((HST.out.below hb8).below ((Below.refl _ _).alloc (Nat.le_refl _) (.cells r.cells 29)))
                have HX8 := Lib.hid (Blk.new w8 r.cells 29 w8.heap.size rfl)
                have HRL := Lib.hid (show s.length ≤ 80000 by have := HLL.out; have := HJT.out; omega)
                clear hb8 HST hbl2 hbc2 HDR HRW HRES HBEL
                simp only [if_true]
                go_upto_region 14 with fail
                change Code.wp _ _ _ _ (w8.alloc (.cells r.cells 29))
                generalize w8.alloc (.cells r.cells 29) = w9 at HS8 HX8 ⊢
                obtain ⟨sa, sc, rfl⟩ : ∃ a c, vs = .slice a s.length c := by
                  rcases HS8.out.cfg.rs.2 with ⟨rfl, h0⟩ | ⟨g, cap, cur, rfl, _⟩
                  · exact ⟨none, 0, by rw [show s.length = 0 from h0]⟩
                  · exact ⟨_, cap, rfl⟩
                have c1 : w9.cell? ⟨w2.heap.size, 0, none⟩ = some (.slice sa s.length sc) := HS8.out.cfg.box.cell 0 rfl
                have HNB := Lib.hid (Blk.new w9 r.cells 29 w9.heap.size rfl)
                have HS9 := Lib.hid (HS8.out.below ((Below.refl w9.heap.size w9).alloc (Nat.le_refl _) (.cells r.cells 29)))
                unfold Sym.cells at HNB HS9
                go_wp2_with (first | (refine load_blk (by rfl) 29 _ (by rfl) w8.heap.size (by rfl) _ _ HX8.out _ Tryd.underlying29 rfl (by kernel_rfl) ?_; unfold Sym.cells) | (at_builtin; refine wpList_append_lies _ (by rfl) _ _ _ (by rfl) w1.heap.size 29 j0 (.agg zeroSym.cells) 16 128 Tryd.underlying48 hj0 hy0 hy1 hy2 (by rfl) (by decide) _ s.length (symsT s) (by rfl) HS9.out.cfg.rs ⟨w9.heap.size, 0, none⟩ 1 1 r.cells.toList (by rfl) (by rfl) (Lines.news_stp HNB.out) (Lines.mem_stp (by simp [Sym.cells, Value.oneCell'])) (by decide) (by have := HRL.out; unfold maxLen; omega) (by have := HRL.out; omega) HS9.out.bel.size (w9.heap.size + 1) (by simp) ?_; intro g cap2 w10 hown9 hgrow9 hat9 hlt9; have HX9 := Lib.hid (blk_row' HS9.out.cfg.box (by decide) HS9.out.cfg.rs hgrow9); have H9 := Lib.hid (HS9.out.pushS hown9 hgrow9 rfl hat9 (by have := HS8.out.bel.size; omega)); have c9 := HX9.out.cell 0 rfl; have f9 := HX9.out.free 0; clear hown9 hgrow9 hat9 hlt9))
                go_roundw
                case rel => exact ⟨j + 1, s ++ [r], _, by have := HJT.out; simp; omega, by omega, by go_num, H9.out, HS.out⟩
                case measure => simp [intOf]; omega
            · have HS := Lib.hid (show takeG symF (ls.drop k ++ [x]) = (s, [x]) by rw [HTS.out, show ls.drop j = [] from List.drop_of_length_le (by omega)]; simp [takeG])
              have hj1 : ¬ (j : Int) < (ls.length : Int) := by omega
              by_cases hx : x = []
              · subst hx
                have b1 : (strB []).toList = [] := by rw [ByteArray.toList_eq, strB_list]
                have b3 : ((strB []).toList == []) = true := by rw [b1]; rfl
                obtain ⟨sa, ta, sc, tc, hcs, hin⟩ := cfgA_in HST.out.cfg
                have HEE := Lib.hid (show readF l = if (checkF (cfgL (zs.getD 0 []) (zs.getD 1 []) (zs.getD 2 []) t s)).1 = 0 then .good (cfgL (zs.getD 0 []) (zs.getD 1 []) (zs.getD 2 []) t s) else .wrong (checkF (cfgL (zs.getD 0 []) (zs.getD 1 []) (zs.getD 2 []) t s)).1 by rw [HGO.out, end_good HT.out HS.out])
                have HIN := Lib.hid hin
                have HBX := HST.out.cfg.box
                rw [hcs] at HBX
                change Blk wr w2.heap.size (Cfg.cells (cfgL (zs.getD 0 []) (zs.getD 1 []) (zs.getD 2 []) t s) sa ta sc tc) _ at HBX
                change Hid (∀ W' : World, _ → _ → Cfg.In (cfgL (zs.getD 0 []) (zs.getD 1 []) (zs.getD 2 []) t s) W' sa ta) at HIN
                generalize cfgL (zs.getD 0 []) (zs.getD 1 []) (zs.getD 2 []) t s = cf at HEE HIN HBX
                have HX := Lib.hid HBX
                have HCK := Lib.hid (RefCheck.check_ref cf sa ta sc tc wr (HIN.out wr HST.out.cfg.rs HST.out.cfg.rt))
                rw [CheckEq.check_eq] at HCK
                clear hcs hin HBX HTS HS
                go_wp2_with (refine load_blk (by rfl) 53 _ (by rfl) w2.heap.size (by rfl) _ _ HX.out _ Tryd.underlying53 rfl (by kernel_rfl) ?_)
                refine HCK.out.mono ?_
                clear HCK
                rintro e w6 ⟨rfl, hb6⟩
                have HX6 := Lib.hid (HX.out.below hb6 HX.out.lt)
                have HRES6 := Lib.hid (HRES.out.below hb6 HRES.out.lt)
                have HKA6 := Lib.hid (HST.out.cfg.below hb6)
                have HBEL6 := Lib.hid (HBEL.out.trans (hb6.mono HBEL.out.size))
                clear hb6 HX HRES HST HBEL
                by_cases hf : (checkF cf).1 = 0
                · rw [if_pos hf] at HEE
                  rw [hf]
                  clear hf
                  have hone : (cf.cells sa ta sc tc).all (·.oneCell') = true := by simp [Cfg.cells, Value.oneCell']
                  go_wp2_with (first
                    | (refine load_blk (by rfl) 53 _ (by rfl) w2.heap.size (by rfl) _ _ HX6.out _ Tryd.underlying53 rfl (by kernel_rfl) ?_)
                    | (refine store_blk (by rfl) 53 _ _ (by rfl) w.heap.size (by rfl) _ (cf.cells sa ta sc tc) 53 HRES6.out (by rfl) rfl (by kernel_rfl) hone ?_))
                  refine bodyPost_ret (results_blk_tmps rfl rfl (HRES6.out.setCells (cf.cells sa ta sc tc) rfl) Tryd.underlying53 rfl (by kernel_rfl)) rfl ?_
                  rw [HEE.out]
                  refine ⟨sa, ta, sc, tc, rfl, ?_, Blk.Below.setCells _ _ _ HBEL6.out (Nat.le_refl _)⟩
                  exact HIN.out _ (HKA6.out.other HRES6.out _ 0).1 (HKA6.out.other HRES6.out _ 0).2
                · rw [if_neg hf] at HEE
                  have b4 : ((checkF cf).1 != 0) = true := by simpa using hf
                  clear hf
                  generalize (checkF cf).1 = f at b4 HEE
                  go_wp2_with (refine store_blk (by rfl) 53 _ _ (by rfl) w.heap.size (by rfl) _ (csA []) 53 HRES6.out (by rfl) rfl (by kernel_rfl) (by simp [csA, cfgV, Value.oneCell']) ?_)
                  refine bodyPost_ret (results_blk_tmps rfl rfl (HRES6.out.setCells (csA []) rfl) Tryd.underlying53 rfl (by kernel_rfl)) rfl ?_
                  rw [HEE.out]
                  change CfgOut (cfg0, 0, f) w (.returned (.tuple #[.agg (csA []), .int .i64 0, .int .i64 f])) _
                  exact cfgOut_bad' 0 f (Blk.Below.setCells _ _ _ HBEL6.out (Nat.le_refl _))
              · have HBAD := Lib.hid (show resF (readF l) = (cfg0, (j : Int) + 1, 4) by rw [HGO.out, end_bad HT.out HS.out (by simpa using hx), HJT.out, HKT.out])
                have b1 : ((strB x).toList == []) = false := by rw [ByteArray.toList_eq, strB_list]; simpa using hx
                have b2 : ((strB x).toList.isEmpty) = false := by rw [ByteArray.toList_eq, strB_list]; simpa using hx
                clear hx HTS HS
                go_wp2_with (refine store_blk (by rfl) 53 _ _ (by rfl) w.heap.size (by rfl) _ (csA []) 53 HRES.out (by rfl) rfl (by kernel_rfl) (by simp [csA, cfgV, Value.oneCell']) ?_)
                refine bodyPost_ret (results_blk_tmps rfl rfl (HRES.out.setCells (csA []) rfl) Tryd.underlying53 rfl (by kernel_rfl)) rfl ?_
                rw [HBAD.out]
                change CfgOut (cfg0, (j : Int) + 1, 4) w (.returned (.tuple #[.agg (csA []), .int .i64 ((j : Int) + 1), .int .i64 4])) _
                exact cfgOut_bad' ((j : Int) + 1) 4 (Blk.Below.setCells _ _ _ HBEL.out (Nat.le_refl _))
        | some r =>
          have HT := Lib.hid (show takeG rowF (ls.drop 3 ++ [x]) = (t ++ [r] ++ (takeG rowF (ls.drop (k + 1) ++ [x])).1, (takeG rowF (ls.drop (k + 1) ++ [x])).2) by rw [HTK.out, HDR.out, take_yes' rowF ho (drop_ne _ _ _)]; simp)
          rw [ho] at HRW
          simp only [Option.getD_some, Option.isSome_some] at HRW
          unfold rowC at HRW
          clear ho HTK
          go_wp2_with fail
          refine HRW.out.mono ?_
          rintro e w6 ⟨rfl, hb6⟩
          have HS6 := Lib.hid ((HST.out.below hb6).below ((Below.refl _ _).alloc (Nat.le_refl _) (.cells (rowC r) 24)))
          have HX6 := Lib.hid (Blk.new w6 (rowC r) 24 w6.heap.size rfl)
          have HRL := Lib.hid (show t.length ≤ 80000 by have := HLL.out; have := HKT.out; omega)
          clear hb6 HST hbl hbc HDR HRW
          simp only [if_true]
          go_upto_region 9 with fail
          change Code.wp _ _ _ _ (w6.alloc (.cells (rowC r) 24))
          generalize w6.alloc (.cells (rowC r) 24) = w7 at HS6 HX6 ⊢
          obtain ⟨ta, tc, rfl⟩ : ∃ a c, vt = .slice a t.length c := by
            rcases HS6.out.cfg.rt.2 with ⟨rfl, h0⟩ | ⟨g, cap, cur, rfl, _⟩
            · exact ⟨none, 0, by rw [show t.length = 0 from h0]⟩
            · exact ⟨_, cap, rfl⟩
          have c1 : w7.cell? ⟨w2.heap.size, 1, none⟩ = some (.slice ta t.length tc) := HS6.out.cfg.box.cell 1 rfl
          have cr0 : w7.cell? ⟨w6.heap.size, 0, none⟩ = some (.int .i64 r.1) := HX6.out.cell 0 rfl
          have cr1 : w7.cell? ⟨w6.heap.size, 1, none⟩ = some (.int .i64 r.2) := HX6.out.cell 1 rfl
          have HNB := Lib.hid (Blk.new w7 (rowC r) 24 w7.heap.size rfl)
          have HS8 := Lib.hid (HS6.out.below ((Below.refl w7.heap.size w7).alloc (Nat.le_refl _) (.cells (rowC r) 24)))
          unfold rowC at HNB HS8
          go_wp2_with (at_builtin; refine wpList_append_lies _ (by rfl) _ _ _ (by rfl) w1.heap.size 24 i0 (.agg (rowC (0, 0))) 2 16 Tryd.underlying49 hi0 hz0 hz1 hz2 (by rfl) (by decide) _ t.length (rowsT t) (by rfl) HS8.out.cfg.rt ⟨w7.heap.size, 0, none⟩ 1 1 (rowC r).toList (by rfl) (by rfl) (Lines.news_stp HNB.out) (Lines.mem_stp (by simp [rowC, Value.oneCell'])) (by decide) (by have := HRL.out; unfold maxLen; omega) (by have := HRL.out; omega) HS8.out.bel.size (w7.heap.size + 1) (by simp) ?_; intro g cap2 w9 hown9 hgrow9 hat9 hlt9; have HX9 := Lib.hid (blk_row' HS8.out.cfg.box (by decide) HS8.out.cfg.rt hgrow9); have H9 := Lib.hid (HS8.out.pushT hown9 hgrow9 rfl hat9 (by have := HS6.out.bel.size; omega)); have c9 := HX9.out.cell 1 rfl; have f9 := HX9.out.free 1; clear hown9 hgrow9 hat9 hlt9)
          go_roundw
          case rel => exact ⟨k + 1, t ++ [r], _, by have := HKT.out; simp; omega, by omega, by go_num, H9.out, HT.out⟩
          case measure => simp [intOf]; omega
      · have HT := Lib.hid (show takeG rowF (ls.drop 3 ++ [x]) = (t, ls.drop k ++ [x]) by rw [HTK.out, show ls.drop k = [] from List.drop_of_length_le (by omega)]; simp [takeG])
        have hk1 : ¬ (k : Int) < (ls.length : Int) := by omega
        have HS6 := HST
        clear HST HTK
        go_wp2_with fail
        go_loopw [9] (fun i wx => ∃ j s vs, j = k + s.length ∧ j ≤ ls.length ∧ i = .int .i64 ((j : Nat) : Int) ∧ RdR w1 w.heap.size w2.heap.size (hdC zs) (.slice _ ls.length c) ls t s vs vt wx ∧ takeG symF (ls.drop k ++ [x]) = (s ++ (takeG symF (ls.drop j ++ [x])).1, (takeG symF (ls.drop j ++ [x])).2)) (fun i _ => ls.length - (intOf i).toNat)
        case atStart => exact ⟨k, [], _, rfl, hkl, rfl, HS6.out, rfl⟩
        case round =>
          obtain ⟨j, s, vs, hjt, hjl, rfl, hst, htk⟩ := hrel
          clear HS6
          have HST := Lib.hid hst
          have HTS := Lib.hid htk
          have HJT := Lib.hid hjt
          clear hst htk hjt
          have hj2 : (j : Int) ≤ 80000 := by have := HLL.out; omega
          have HRES := Lib.hid (HR1.out.below HST.out.bel HR1.out.lt)
          have HBEL := Lib.hid (HB1.out.trans (HST.out.bel.mono HB1.out.size))
          by_cases hjl2 : j < ls.length
          · obtain ⟨a', c', ha, htr⟩ := HST.out.at
            injection ha with ha1 _ ha2
            subst ha1 ha2
            obtain ⟨b2, hb2e, hbl2, hbc2⟩ := htr _ hjl2
            clear htr
            cases hb2e
            have HDR := Lib.hid (drop_at hjl2 x)
            have HRW := Lib.hid (rsymbol_any ls[j] (by have := HLB.out j hjl2; have := HLN.out; omega) wr)
            unfold SymIs at HRW
            have hj1 : (j : Int) < (ls.length : Int) := by omega
            cases ho : symF ls[j] with
            | none =>
              have HS := Lib.hid (show takeG symF (ls.drop k ++ [x]) = (s, ls.drop j ++ [x]) by rw [HTS.out, HDR.out, take_no' symF ho (drop_ne _ _ _)]; simp)
              have HBAD := Lib.hid (show resF (readF l) = (cfg0, (j : Int) + 1, 4) by rw [HGO.out, end_bad HT.out HS.out (by rw [HDR.out]; simp), HJT.out, HKT.out])
              rw [ho] at HRW
              simp only [Option.getD_none, Option.isSome_none] at HRW
              clear ho HTS HS
              unfold Sym.cells at HRW
              go_wp2_with fail
              refine HRW.out.mono ?_
              rintro e w8 ⟨rfl, hb8⟩
              have HRES8 := Lib.hid ((HRES.out.below hb8 HRES.out.lt).old (.cells zeroSym.cells 29))
              have HBEL8 := Lib.hid ((HBEL.out.trans (hb8.mono HBEL.out.size)).alloc (Nat.le_trans HBEL.out.size hb8.size) (.cells zeroSym.cells 29))
              clear hb8 HST hbl2 hbc2 HDR hj1 HRW HRES HBEL
              simp only [Bool.false_eq_true, if_false]
              go_upto_region 14 with fail
              change Code.wp _ _ _ _ (w8.alloc (.cells zeroSym.cells 29))
              generalize w8.alloc (.cells zeroSym.cells 29) = w9 at HRES8 HBEL8 ⊢
              have HRES := HRES8
              have HBEL := HBEL8
              go_wp2_with (refine store_blk (by rfl) 53 _ _ (by rfl) w.heap.size (by rfl) _ (csA []) 53 HRES.out (by rfl) rfl (by kernel_rfl) (by simp [csA, cfgV, Value.oneCell']) ?_)
              refine bodyPost_ret (results_blk_tmps rfl rfl (HRES.out.setCells (csA []) rfl) Tryd.underlying53 rfl (by kernel_rfl)) rfl ?_
              rw [HBAD.out]
              change CfgOut (cfg0, (j : Int) + 1, 4) w (.returned (.tuple #[.agg (csA []), .int .i64 ((j : Int) + 1), .int .i64 4])) _
              exact cfgOut_bad' ((j : Int) + 1) 4 (Blk.Below.setCells _ _ _ HBEL.out (Nat.le_refl _))
            | some r =>
              have HS := Lib.hid (show takeG symF (ls.drop k ++ [x]) = (s ++ [r] ++ (takeG symF (ls.drop (j + 1) ++ [x])).1, (takeG symF (ls.drop (j + 1) ++ [x])).2) by rw [HTS.out, HDR.out, take_yes' symF ho (drop_ne _ _ _)]; simp)
              rw [ho] at HRW
              simp only [Option.getD_some, Option.isSome_some] at HRW
              unfold Sym.cells at HRW
              clear ho HTS
              go_wp2_with fail
              refine HRW.out.mono ?_
              rintro e w8 ⟨rfl, hb8⟩
              have HS8 := Lib.hid ((HST.out.below hb8).below ((Below.refl _ _).alloc (Nat.le_refl _) (.cells r.cells 29)))
              have HX8 := Lib.hid (Blk.new w8 r.cells 29 w8.heap.size rfl)
              have HRL := Lib.hid (show s.length ≤ 80000 by have := HLL.out; have := HJT.out; omega)
              clear hb8 HST hbl2 hbc2 HDR HRW HRES HBEL
              simp only [if_true]
              go_upto_region 14 with fail
              change Code.wp _ _ _ _ (w8.alloc (.cells r.cells 29))
              generalize w8.alloc (.cells r.cells 29) = w9 at HS8 HX8 ⊢
              obtain ⟨sa, sc, rfl⟩ : ∃ a c, vs = .slice a s.length c := by
                rcases HS8.out.cfg.rs.2 with ⟨rfl, h0⟩ | ⟨g, cap, cur, rfl, _⟩
                · exact ⟨none, 0, by rw [show s.length = 0 from h0]⟩
                · exact ⟨_, cap, rfl⟩
              have c1 : w9.cell? ⟨w2.heap.size, 0, none⟩ = some (.slice sa s.length sc) := HS8.out.cfg.box.cell 0 rfl
              have HNB := Lib.hid (Blk.new w9 r.cells 29 w9.heap.size rfl)
              have HS9 := Lib.hid (HS8.out.below ((Below.refl w9.heap.size w9).alloc (Nat.le_refl _) (.cells r.cells 29)))
              unfold Sym.cells at HNB HS9
              go_wp2_with (first | (refine load_blk (by rfl) 29 _ (by rfl) w8.heap.size (by rfl) _ _ HX8.out _ Tryd.underlying29 rfl (by kernel_rfl) ?_; unfold Sym.cells) | (at_builtin; refine wpList_append_lies _ (by rfl) _ _ _ (by rfl) w1.heap.size 29 j0 (.agg zeroSym.cells) 16 128 Tryd.underlying48 hj0 hy0 hy1 hy2 (by rfl) (by decide) _ s.length (symsT s) (by rfl) HS9.out.cfg.rs ⟨w9.heap.size, 0, none⟩ 1 1 r.cells.toList (by rfl) (by rfl) (Lines.news_stp HNB.out) (Lines.mem_stp (by simp [Sym.cells, Value.oneCell'])) (by decide) (by have := HRL.out; unfold maxLen; omega) (by have := HRL.out; omega) HS9.out.bel.size (w9.heap.size + 1) (by simp) ?_; intro g cap2 w10 hown9 hgrow9 hat9 hlt9; have HX9 := Lib.hid (blk_row' HS9.out.cfg.box (by decide) HS9.out.cfg.rs hgrow9); have H9 := Lib.hid (HS9.out.pushS hown9 hgrow9 rfl hat9 (by have := HS8.out.bel.size; omega)); have c9 := HX9.out.cell 0 rfl; have f9 := HX9.out.free 0; clear hown9 hgrow9 hat9 hlt9))
              go_roundw
              case rel => exact ⟨j + 1, s ++ [r], _, by have := HJT.out; simp; omega, by omega, by go_num, H9.out, HS.out⟩
              case measure => simp [intOf]; omega
          · have HS := Lib.hid (show takeG symF (ls.drop k ++ [x]) = (s, [x]) by rw [HTS.out, show ls.drop j = [] from List.drop_of_length_le (by omega)]; simp [takeG])
            have hj1 : ¬ (j : Int) < (ls.length : Int) := by omega
            by_cases hx : x = []
            · subst hx
              have b1 : (strB []).toList = [] := by rw [ByteArray.toList_eq, strB_list]
              have b3 : ((strB []).toList == []) = true := by rw [b1]; rfl
              obtain ⟨sa, ta, sc, tc, hcs, hin⟩ := cfgA_in HST.out.cfg
              have HEE := Lib.hid (show readF l = if (checkF (cfgL (zs.getD 0 []) (zs.getD 1 []) (zs.getD 2 []) t s)).1 = 0 then .good (cfgL (zs.getD 0 []) (zs.getD 1 []) (zs.getD 2 []) t s) else .wrong (checkF (cfgL (zs.getD 0 []) (zs.getD 1 []) (zs.getD 2 []) t s)).1 by rw [HGO.out, end_good HT.out HS.out])
              have HIN := Lib.hid hin
              have HBX := HST.out.cfg.box
              rw [hcs] at HBX
              change Blk wr w2.heap.size (Cfg.cells (cfgL (zs.getD 0 []) (zs.getD 1 []) (zs.getD 2 []) t s) sa ta sc tc) _ at HBX
              change Hid (∀ W' : World, _ → _ → Cfg.In (cfgL (zs.getD 0 []) (zs.getD 1 []) (zs.getD 2 []) t s) W' sa ta) at HIN
              generalize cfgL (zs.getD 0 []) (zs.getD 1 []) (zs.getD 2 []) t s = cf at HEE HIN HBX
              have HX := Lib.hid HBX
              have HCK := Lib.hid (RefCheck.check_ref cf sa ta sc tc wr (HIN.out wr HST.out.cfg.rs HST.out.cfg.rt))
              rw [CheckEq.check_eq] at HCK
              clear hcs hin HBX HTS HS
              go_wp2_with (refine load_blk (by rfl) 53 _ (by rfl) w2.heap.size (by rfl) _ _ HX.out _ Tryd.underlying53 rfl (by kernel_rfl) ?_)
              refine HCK.out.mono ?_
              clear HCK
              rintro e w6 ⟨rfl, hb6⟩
              have HX6 := Lib.hid (HX.out.below hb6 HX.out.lt)
              have HRES6 := Lib.hid (HRES.out.below hb6 HRES.out.lt)
              have HKA6 := Lib.hid (HST.out.cfg.below hb6)
              have HBEL6 := Lib.hid (HBEL.out.trans (hb6.mono HBEL.out.size))
              clear hb6 HX HRES HST HBEL
              by_cases hf : (checkF cf).1 = 0
              · rw [if_pos hf] at HEE
                rw [hf]
                clear hf
                have hone : (cf.cells sa ta sc tc).all (·.oneCell') = true := by simp [Cfg.cells, Value.oneCell']
                go_wp2_with (first
                  | (refine load_blk (by rfl) 53 _ (by rfl) w2.heap.size (by rfl) _ _ HX6.out _ Tryd.underlying53 rfl (by kernel_rfl) ?_)
                  | (refine store_blk (by rfl) 53 _ _ (by rfl) w.heap.size (by rfl) _ (cf.cells sa ta sc tc) 53 HRES6.out (by rfl) rfl (by kernel_rfl) hone ?_))
                refine bodyPost_ret (results_blk_tmps rfl rfl (HRES6.out.setCells (cf.cells sa ta sc tc) rfl) Tryd.underlying53 rfl (by kernel_rfl)) rfl ?_
                rw [HEE.out]
                refine ⟨sa, ta, sc, tc, rfl, ?_, Blk.Below.setCells _ _ _ HBEL6.out (Nat.le_refl _)⟩
                exact HIN.out _ (HKA6.out.other HRES6.out _ 0).1 (HKA6.out.other HRES6.out _ 0).2
              · rw [if_neg hf] at HEE
                have b4 : ((checkF cf).1 != 0) = true := by simpa using hf
                clear hf
                generalize (checkF cf).1 = f at b4 HEE
                go_wp2_with (refine store_blk (by rfl) 53 _ _ (by rfl) w.heap.size (by rfl) _ (csA []) 53 HRES6.out (by rfl) rfl (by kernel_rfl) (by simp [csA, cfgV, Value.oneCell']) ?_)
                refine bodyPost_ret (results_blk_tmps rfl rfl (HRES6.out.setCells (csA []) rfl) Tryd.underlying53 rfl (by kernel_rfl)) rfl ?_
                rw [HEE.out]
                change CfgOut (cfg0, 0, f) w (.returned (.tuple #[.agg (csA []), .int .i64 0, .int .i64 f])) _
                exact cfgOut_bad' 0 f (Blk.Below.setCells _ _ _ HBEL6.out (Nat.le_refl _))
            · have HBAD := Lib.hid (show resF (readF l) = (cfg0, (j : Int) + 1, 4) by rw [HGO.out, end_bad HT.out HS.out (by simpa using hx), HJT.out, HKT.out])
              have b1 : ((strB x).toList == []) = false := by rw [ByteArray.toList_eq, strB_list]; simpa using hx
              have b2 : ((strB x).toList.isEmpty) = false := by rw [ByteArray.toList_eq, strB_list]; simpa using hx
              clear hx HTS HS
              go_wp2_with (refine store_blk (by rfl) 53 _ _ (by rfl) w.heap.size (by rfl) _ (csA []) 53 HRES.out (by rfl) rfl (by kernel_rfl) (by simp [csA, cfgV, Value.oneCell']) ?_)
              refine bodyPost_ret (results_blk_tmps rfl rfl (HRES.out.setCells (csA []) rfl) Tryd.underlying53 rfl (by kernel_rfl)) rfl ?_
              rw [HBAD.out]
              change CfgOut (cfg0, (j : Int) + 1, 4) w (.returned (.tuple #[.agg (csA []), .int .i64 ((j : Int) + 1), .int .i64 4])) _
              exact cfgOut_bad' ((j : Int) + 1) 4 (Blk.Below.setCells _ _ _ HBEL.out (Nat.le_refl _))
end Go.Proofs.YtmkcooamgojbpaaDoor.Sheet

/- damperref07.Same of two configurations that are the same. -/
namespace Go.Proofs.YtmkcooamgojbpaaDoor.Sheet
open Go.RowKit Go.Proofs.YtmkcooamgojbpaaDoor.Kit Go.Proofs.YtmkcooamgojbpaaDoor.Blk Go.Proofs.YtmkcooamgojbpaaDoor.Symbol Go.Proofs.YtmkcooamgojbpaaDoor.Check Go.Proofs.YtmkcooamgojbpaaDoor.Table
attribute [local go_sem ↓] Go.wp_at_zero Go.wp_at_succ
set_option linter.unusedVariables false

theorem row_range {W : World} {g o : Nat} {r : Int × Int} (h1 : W.cell? ⟨g, o, none⟩ = some (.int .i64 r.1)) (h2 : W.cell? ⟨g, o + 1, none⟩ = some (.int .i64 r.2)) : W.rangeAt g o (rowC r).toList
  | 0, v, hv => by injection hv with hv; subst hv; exact h1
  | 1, v, hv => by injection hv with hv; subst hv; exact h2
  | j + 2, v, hv => by simp [rowC] at hv
theorem eq_int (d : Nat) (n : Int) (w : World) : (Op.equalIn (d + 1) 3 (.int .i64 n) (.int .i64 n)).run Tryd.prog w = .ok true w := by
  simp [Op.equalIn, run_underlying Tryd.underlying3]
theorem eq_i64 (d : Nat) (n : Int) (w : World) : (Op.equalIn (d + 1) 2 (.int .i64 n) (.int .i64 n)).run Tryd.prog w = .ok true w := by
  simp [Op.equalIn, run_underlying Tryd.underlying2]
theorem cInt : Tryd.prog.cellsOf 3 = 1 := by kernel_rfl
theorem cI64 : Tryd.prog.cellsOf 2 = 1 := by kernel_rfl
theorem eq_three (x y z : Int) (w : World) : (Op.equalIn 10000 50 (.agg #[.int .i64 x, .int .i64 y, .int .i64 z]) (.agg #[.int .i64 x, .int .i64 y, .int .i64 z])).run Tryd.prog w = .ok true w := by
  obtain ⟨i, hi⟩ : ∃ i, Tryd.prog.info? 3 = some i := Option.isSome_iff_exists.1 (by kernel_rfl)
  have h := run_equalIn_array (P := Tryd.prog) (w := w) 9999 #[.int .i64 x, .int .i64 y, .int .i64 z] #[.int .i64 x, .int .i64 y, .int .i64 z] Tryd.underlying50 hi
  have he : ∀ (n : Int) (w : World), (Op.equalIn 9999 3 (.int .i64 n) (.int .i64 n)).run Tryd.prog w = .ok true w := fun n w => eq_int 9998 n w
  rw [cInt] at h
  simp only [Nat.reduceAdd] at h
  simp [h, Op.eqItems, List.range, List.range.loop, part, he]
theorem eq_two (x y : Int) (w : World) : (Op.equalIn 10000 51 (.agg #[.int .i64 x, .int .i64 y]) (.agg #[.int .i64 x, .int .i64 y])).run Tryd.prog w = .ok true w := by
  obtain ⟨i, hi⟩ : ∃ i, Tryd.prog.info? 2 = some i := Option.isSome_iff_exists.1 (by kernel_rfl)
  have h := run_equalIn_array (P := Tryd.prog) (w := w) 9999 #[.int .i64 x, .int .i64 y] #[.int .i64 x, .int .i64 y] Tryd.underlying51 hi
  have he : ∀ (n : Int) (w : World), (Op.equalIn 9999 2 (.int .i64 n) (.int .i64 n)).run Tryd.prog w = .ok true w := fun n w => eq_i64 9998 n w
  rw [cI64] at h
  simp only [Nat.reduceAdd] at h
  simp [h, Op.eqItems, List.range, List.range.loop, part, he]
set_option maxRecDepth 20000 in
set_option maxHeartbeats 8000000 in
theorem same_any (c : Cfg) (sa ta sb tb : Option Addr) (sc tc sd td : Nat) (w : World) (h1 : c.In w sa ta) (h2 : c.In w sb tb) :
    Calls Tryd.prog 35 #[.agg (c.cells sa ta sc tc), .agg (c.cells sb tb sd td)] w fun e w' => e = .returned (.bool true) ∧ Below w.heap.size w w' := by
  have hns := h1.ns
  have hnt := h1.nt
  unfold maxLen at hns hnt
  have HW : Hid (Below w.heap.size w ((w.alloc (.cells (c.cells sa ta sc tc) 53)).alloc (.cells (c.cells sb tb sd td) 53))) := Lib.hid (((Below.refl _ _).alloc (Nat.le_refl _) _).alloc (by simp) _)
  have HX := Lib.hid ((Blk.new w (c.cells sa ta sc tc) 53 w.heap.size rfl).old (.cells (c.cells sb tb sd td) 53))
  have HY := Lib.hid (Blk.new (w.alloc (.cells (c.cells sa ta sc tc) 53)) (c.cells sb tb sd td) 53 (w.heap.size + 1) (by simp))
  have H1 := Lib.hid (h1.below HW.out)
  have H2 := Lib.hid (h2.below HW.out)
  clear h1 h2
  unfold Cfg.cells
  go_enter Tryd.func35, Tryd.ntmps35
  go_upto_region 1 with fail
  change Code.wp _ _ _ _ ((w.alloc (.cells (c.cells sa ta sc tc) 53)).alloc (.cells (c.cells sb tb sd td) 53))
  generalize (w.alloc (.cells (c.cells sa ta sc tc) 53)).alloc (.cells (c.cells sb tb sd td) 53) = w1 at HW HX HY H1 H2 ⊢
  have a0 : w1.cell? ⟨w.heap.size, 0, none⟩ = some (.slice sa c.syms.length sc) := HX.out.cell 0 rfl
  have a1 : w1.cell? ⟨w.heap.size, 1, none⟩ = some (.slice ta c.tab.length tc) := HX.out.cell 1 rfl
  have a2 : w1.cell? ⟨w.heap.size, 2, none⟩ = some (.int .i64 c.index) := HX.out.cell 2 rfl
  have a3 : w1.cell? ⟨w.heap.size, 3, none⟩ = some (.int .i64 c.f0) := HX.out.cell 3 rfl
  have a4 : w1.cell? ⟨w.heap.size, 4, none⟩ = some (.int .i64 c.f1) := HX.out.cell 4 rfl
  have a5 : w1.cell? ⟨w.heap.size, 5, none⟩ = some (.int .i64 c.f2) := HX.out.cell 5 rfl
  have a6 : w1.cell? ⟨w.heap.size, 6, none⟩ = some (.int .i64 c.h0) := HX.out.cell 6 rfl
  have a7 : w1.cell? ⟨w.heap.size, 7, none⟩ = some (.int .i64 c.h1) := HX.out.cell 7 rfl
  have b0 : w1.cell? ⟨w.heap.size + 1, 0, none⟩ = some (.slice sb c.syms.length sd) := HY.out.cell 0 rfl
  have b1 : w1.cell? ⟨w.heap.size + 1, 1, none⟩ = some (.slice tb c.tab.length td) := HY.out.cell 1 rfl
  have b2 : w1.cell? ⟨w.heap.size + 1, 2, none⟩ = some (.int .i64 c.index) := HY.out.cell 2 rfl
  have b3 : w1.cell? ⟨w.heap.size + 1, 3, none⟩ = some (.int .i64 c.f0) := HY.out.cell 3 rfl
  have b4 : w1.cell? ⟨w.heap.size + 1, 4, none⟩ = some (.int .i64 c.f1) := HY.out.cell 4 rfl
  have b5 : w1.cell? ⟨w.heap.size + 1, 5, none⟩ = some (.int .i64 c.f2) := HY.out.cell 5 rfl
  have b6 : w1.cell? ⟨w.heap.size + 1, 6, none⟩ = some (.int .i64 c.h0) := HY.out.cell 6 rfl
  have b7 : w1.cell? ⟨w.heap.size + 1, 7, none⟩ = some (.int .i64 c.h1) := HY.out.cell 7 rfl
  have q3 := fun W => eq_three c.f0 c.f1 c.f2 W
  have q2 := fun W => eq_two c.h0 c.h1 W
  go_wp2_with fail
  clear a2 a3 a4 a5 a6 a7 b2 b3 b4 b5 b6 b7 q3 q2
  go_loopw [5] (fun i wr => ∃ k : Nat, k ≤ c.syms.length ∧ i = .int .i64 (k : Int) ∧ Below w1.heap.size w1 wr) (fun i _ => c.syms.length - (intOf i).toNat)
  case atStart => exact ⟨0, by omega, rfl, Below.refl _ _⟩
  case round =>
    obtain ⟨k, hk, rfl, hbr⟩ := hrel
    have HB := Lib.hid hbr
    have hx : w.heap.size < w1.heap.size := HX.out.lt
    have hy : w.heap.size + 1 < w1.heap.size := HY.out.lt
    have d0 : wr.cell? ⟨w.heap.size, 0, none⟩ = some (.slice sa c.syms.length sc) := by rw [HB.out.cell (p := ⟨w.heap.size, 0, none⟩) hx]; exact a0
    have d1 : wr.cell? ⟨w.heap.size, 1, none⟩ = some (.slice ta c.tab.length tc) := by rw [HB.out.cell (p := ⟨w.heap.size, 1, none⟩) hx]; exact a1
    have e0 : wr.cell? ⟨w.heap.size + 1, 0, none⟩ = some (.slice sb c.syms.length sd) := by rw [HB.out.cell (p := ⟨w.heap.size + 1, 0, none⟩) hy]; exact b0
    have e1 : wr.cell? ⟨w.heap.size + 1, 1, none⟩ = some (.slice tb c.tab.length td) := by rw [HB.out.cell (p := ⟨w.heap.size + 1, 1, none⟩) hy]; exact b1
    clear hbr hx hy
    by_cases hlt : k < c.syms.length
    · have hkl : (k : Int) < (c.syms.length : Int) := by omega
      obtain ⟨g1, o1, rfl, hg1, hc1⟩ := (H1.out.below HB.out).syms k hlt
      obtain ⟨g2, o2, rfl, hg2, hc2⟩ := (H2.out.below HB.out).syms k hlt
      have R1 := Lib.hid (show wr.drew.rangeAt g1 (o1 + k * 16) c.syms[k].cells.toList from fun j v hv => hc1 j v (by simpa using hv))
      have R2 := Lib.hid (show wr.drew.rangeAt g2 (o2 + k * 16) c.syms[k].cells.toList from fun j v hv => hc2 j v (by simpa using hv))
      clear hc1 hc2 hg1 hg2
      generalize c.syms[k] = s at R1 R2
      go_upto_region 6 with fail
      refine Go.Proofs.YtmkcooamgojbpaaDoor.Veil.start 10 (by kernel_rfl) (by kernel_rfl) ?_
      simp only [List.take_succ_cons, List.take_zero, List.drop_succ_cons, List.drop_zero]
      (first | (refine Go.Proofs.YtmkcooamgojbpaaDoor.Veil.arm ?_; first | (refine still_load_mid rfl 29 (.tmp 54) rfl g1 (o1 + k * 16) rfl s.cells.toList _ R1.out Tryd.underlying29 rfl (by kernel_rfl) ?_) | (refine still_load_mid rfl 29 (.tmp 59) rfl g2 (o2 + k * 16) rfl s.cells.toList _ R2.out Tryd.underlying29 rfl (by kernel_rfl) ?_); refine wpStill_nil ?_) | (refine Go.Proofs.YtmkcooamgojbpaaDoor.Veil.step (fun K hK => ?_); go_simp; refine hK _ ?_; clear hK K))
      (first | (refine Go.Proofs.YtmkcooamgojbpaaDoor.Veil.arm ?_; first | (refine still_load_mid rfl 29 (.tmp 54) rfl g1 (o1 + k * 16) rfl s.cells.toList _ R1.out Tryd.underlying29 rfl (by kernel_rfl) ?_) | (refine still_load_mid rfl 29 (.tmp 59) rfl g2 (o2 + k * 16) rfl s.cells.toList _ R2.out Tryd.underlying29 rfl (by kernel_rfl) ?_); refine wpStill_nil ?_) | (refine Go.Proofs.YtmkcooamgojbpaaDoor.Veil.step (fun K hK => ?_); go_simp; refine hK _ ?_; clear hK K))
      (first | (refine Go.Proofs.YtmkcooamgojbpaaDoor.Veil.arm ?_; first | (refine still_load_mid rfl 29 (.tmp 54) rfl g1 (o1 + k * 16) rfl s.cells.toList _ R1.out Tryd.underlying29 rfl (by kernel_rfl) ?_) | (refine still_load_mid rfl 29 (.tmp 59) rfl g2 (o2 + k * 16) rfl s.cells.toList _ R2.out Tryd.underlying29 rfl (by kernel_rfl) ?_); refine wpStill_nil ?_) | (refine Go.Proofs.YtmkcooamgojbpaaDoor.Veil.step (fun K hK => ?_); go_simp; refine hK _ ?_; clear hK K))
      (first | (refine Go.Proofs.YtmkcooamgojbpaaDoor.Veil.arm ?_; first | (refine still_load_mid rfl 29 (.tmp 54) rfl g1 (o1 + k * 16) rfl s.cells.toList _ R1.out Tryd.underlying29 rfl (by kernel_rfl) ?_) | (refine still_load_mid rfl 29 (.tmp 59) rfl g2 (o2 + k * 16) rfl s.cells.toList _ R2.out Tryd.underlying29 rfl (by kernel_rfl) ?_); refine wpStill_nil ?_) | (refine Go.Proofs.YtmkcooamgojbpaaDoor.Veil.step (fun K hK => ?_); go_simp; refine hK _ ?_; clear hK K))
      (first | (refine Go.Proofs.YtmkcooamgojbpaaDoor.Veil.arm ?_; first | (refine still_load_mid rfl 29 (.tmp 54) rfl g1 (o1 + k * 16) rfl s.cells.toList _ R1.out Tryd.underlying29 rfl (by kernel_rfl) ?_) | (refine still_load_mid rfl 29 (.tmp 59) rfl g2 (o2 + k * 16) rfl s.cells.toList _ R2.out Tryd.underlying29 rfl (by kernel_rfl) ?_); refine wpStill_nil ?_) | (refine Go.Proofs.YtmkcooamgojbpaaDoor.Veil.step (fun K hK => ?_); go_simp; refine hK _ ?_; clear hK K))
      (first | (refine Go.Proofs.YtmkcooamgojbpaaDoor.Veil.arm ?_; first | (refine still_load_mid rfl 29 (.tmp 54) rfl g1 (o1 + k * 16) rfl s.cells.toList _ R1.out Tryd.underlying29 rfl (by kernel_rfl) ?_) | (refine still_load_mid rfl 29 (.tmp 59) rfl g2 (o2 + k * 16) rfl s.cells.toList _ R2.out Tryd.underlying29 rfl (by kernel_rfl) ?_); refine wpStill_nil ?_) | (refine Go.Proofs.YtmkcooamgojbpaaDoor.Veil.step (fun K hK => ?_); go_simp; refine hK _ ?_; clear hK K))
      (first | (refine Go.Proofs.YtmkcooamgojbpaaDoor.Veil.arm ?_; first | (refine still_load_mid rfl 29 (.tmp 54) rfl g1 (o1 + k * 16) rfl s.cells.toList _ R1.out Tryd.underlying29 rfl (by kernel_rfl) ?_) | (refine still_load_mid rfl 29 (.tmp 59) rfl g2 (o2 + k * 16) rfl s.cells.toList _ R2.out Tryd.underlying29 rfl (by kernel_rfl) ?_); refine wpStill_nil ?_) | (refine Go.Proofs.YtmkcooamgojbpaaDoor.Veil.step (fun K hK => ?_); go_simp; refine hK _ ?_; clear hK K))
      (first | (refine Go.Proofs.YtmkcooamgojbpaaDoor.Veil.arm ?_; first | (refine still_load_mid rfl 29 (.tmp 54) rfl g1 (o1 + k * 16) rfl s.cells.toList _ R1.out Tryd.underlying29 rfl (by kernel_rfl) ?_) | (refine still_load_mid rfl 29 (.tmp 59) rfl g2 (o2 + k * 16) rfl s.cells.toList _ R2.out Tryd.underlying29 rfl (by kernel_rfl) ?_); refine wpStill_nil ?_) | (refine Go.Proofs.YtmkcooamgojbpaaDoor.Veil.step (fun K hK => ?_); go_simp; refine hK _ ?_; clear hK K))
      (first | (refine Go.Proofs.YtmkcooamgojbpaaDoor.Veil.arm ?_; first | (refine still_load_mid rfl 29 (.tmp 54) rfl g1 (o1 + k * 16) rfl s.cells.toList _ R1.out Tryd.underlying29 rfl (by kernel_rfl) ?_) | (refine still_load_mid rfl 29 (.tmp 59) rfl g2 (o2 + k * 16) rfl s.cells.toList _ R2.out Tryd.underlying29 rfl (by kernel_rfl) ?_); refine wpStill_nil ?_) | (refine Go.Proofs.YtmkcooamgojbpaaDoor.Veil.step (fun K hK => ?_); go_simp; refine hK _ ?_; clear hK K))
      (first | (refine Go.Proofs.YtmkcooamgojbpaaDoor.Veil.arm ?_; first | (refine still_load_mid rfl 29 (.tmp 54) rfl g1 (o1 + k * 16) rfl s.cells.toList _ R1.out Tryd.underlying29 rfl (by kernel_rfl) ?_) | (refine still_load_mid rfl 29 (.tmp 59) rfl g2 (o2 + k * 16) rfl s.cells.toList _ R2.out Tryd.underlying29 rfl (by kernel_rfl) ?_); refine wpStill_nil ?_) | (refine Go.Proofs.YtmkcooamgojbpaaDoor.Veil.step (fun K hK => ?_); go_simp; refine hK _ ?_; clear hK K))
      refine Go.Proofs.YtmkcooamgojbpaaDoor.Veil.nil ?_
      change wpList _ _ _ _ _ wr.drew
      simp only [Sym.cells]
      go_wp2_with fail
      go_roundw
      case rel => exact ⟨k + 1, by omega, by go_num, HB.out.drew⟩
      case measure => simp [intOf]; omega
    · obtain rfl : k = c.syms.length := by omega
      have H3 := Lib.hid (H1.out.below HB.out)
      have H4 := Lib.hid (H2.out.below HB.out)
      have HW2 := Lib.hid (HW.out.trans (HB.out.mono HW.out.size))
      have hx : w.heap.size < wr.heap.size := World.block_lt_of_cell? wr _ d1
      have hy : w.heap.size + 1 < wr.heap.size := World.block_lt_of_cell? wr _ e1
      clear a0 b0 a1 b1 H1 H2 HX HY HW HB
      go_wp2_with fail
      clear d0 e0
      obtain ⟨wo, rfl⟩ : ∃ wo : World, wo = wr := ⟨_, rfl⟩
      go_loopw [6] (fun i wx => ∃ k : Nat, k ≤ c.tab.length ∧ i = .int .i64 (k : Int) ∧ Below wo.heap.size wo wx) (fun i _ => c.tab.length - (intOf i).toNat)
      case atStart => exact ⟨0, by omega, rfl, Below.refl _ _⟩
      case round =>
        obtain ⟨k, hk, rfl, hbr⟩ := hrel
        have HB := Lib.hid hbr
        have d2 : wr.cell? ⟨w.heap.size, 1, none⟩ = some (.slice ta c.tab.length tc) := by rw [HB.out.cell (p := ⟨w.heap.size, 1, none⟩) hx]; exact d1
        have e2 : wr.cell? ⟨w.heap.size + 1, 1, none⟩ = some (.slice tb c.tab.length td) := by rw [HB.out.cell (p := ⟨w.heap.size + 1, 1, none⟩) hy]; exact e1
        clear hbr
        by_cases hlt : k < c.tab.length
        · have hkl : (k : Int) < (c.tab.length : Int) := by omega
          obtain ⟨g1, o1, rfl, hg1, hc1, hd1⟩ := (H3.out.below HB.out).tab k hlt
          obtain ⟨g2, o2, rfl, hg2, hc2, hd2⟩ := (H4.out.below HB.out).tab k hlt
          have R1 := Lib.hid (show wr.drew.rangeAt g1 (o1 + k * 2) (rowC c.tab[k]).toList from row_range hc1 hd1)
          have R2 := Lib.hid (show wr.drew.rangeAt g2 (o2 + k * 2) (rowC c.tab[k]).toList from row_range hc2 hd2)
          clear hc1 hc2 hd1 hd2 hg1 hg2
          generalize c.tab[k] = s at R1 R2
          go_upto_region 11 with fail
          refine Go.Proofs.YtmkcooamgojbpaaDoor.Veil.start 10 (by kernel_rfl) (by kernel_rfl) ?_
          simp only [List.take_succ_cons, List.take_zero, List.drop_succ_cons, List.drop_zero]
          (first | (refine Go.Proofs.YtmkcooamgojbpaaDoor.Veil.arm ?_; first | (refine still_load_mid rfl 24 (.tmp 72) rfl g1 (o1 + k * 2) rfl (rowC s).toList _ R1.out Tryd.underlying24 rfl (by kernel_rfl) ?_) | (refine still_load_mid rfl 24 (.tmp 77) rfl g2 (o2 + k * 2) rfl (rowC s).toList _ R2.out Tryd.underlying24 rfl (by kernel_rfl) ?_); refine wpStill_nil ?_) | (refine Go.Proofs.YtmkcooamgojbpaaDoor.Veil.step (fun K hK => ?_); go_simp; refine hK _ ?_; clear hK K))
          (first | (refine Go.Proofs.YtmkcooamgojbpaaDoor.Veil.arm ?_; first | (refine still_load_mid rfl 24 (.tmp 72) rfl g1 (o1 + k * 2) rfl (rowC s).toList _ R1.out Tryd.underlying24 rfl (by kernel_rfl) ?_) | (refine still_load_mid rfl 24 (.tmp 77) rfl g2 (o2 + k * 2) rfl (rowC s).toList _ R2.out Tryd.underlying24 rfl (by kernel_rfl) ?_); refine wpStill_nil ?_) | (refine Go.Proofs.YtmkcooamgojbpaaDoor.Veil.step (fun K hK => ?_); go_simp; refine hK _ ?_; clear hK K))
          (first | (refine Go.Proofs.YtmkcooamgojbpaaDoor.Veil.arm ?_; first | (refine still_load_mid rfl 24 (.tmp 72) rfl g1 (o1 + k * 2) rfl (rowC s).toList _ R1.out Tryd.underlying24 rfl (by kernel_rfl) ?_) | (refine still_load_mid rfl 24 (.tmp 77) rfl g2 (o2 + k * 2) rfl (rowC s).toList _ R2.out Tryd.underlying24 rfl (by kernel_rfl) ?_); refine wpStill_nil ?_) | (refine Go.Proofs.YtmkcooamgojbpaaDoor.Veil.step (fun K hK => ?_); go_simp; refine hK _ ?_; clear hK K))
          (first | (refine Go.Proofs.YtmkcooamgojbpaaDoor.Veil.arm ?_; first | (refine still_load_mid rfl 24 (.tmp 72) rfl g1 (o1 + k * 2) rfl (rowC s).toList _ R1.out Tryd.underlying24 rfl (by kernel_rfl) ?_) | (refine still_load_mid rfl 24 (.tmp 77) rfl g2 (o2 + k * 2) rfl (rowC s).toList _ R2.out Tryd.underlying24 rfl (by kernel_rfl) ?_); refine wpStill_nil ?_) | (refine Go.Proofs.YtmkcooamgojbpaaDoor.Veil.step (fun K hK => ?_); go_simp; refine hK _ ?_; clear hK K))
          (first | (refine Go.Proofs.YtmkcooamgojbpaaDoor.Veil.arm ?_; first | (refine still_load_mid rfl 24 (.tmp 72) rfl g1 (o1 + k * 2) rfl (rowC s).toList _ R1.out Tryd.underlying24 rfl (by kernel_rfl) ?_) | (refine still_load_mid rfl 24 (.tmp 77) rfl g2 (o2 + k * 2) rfl (rowC s).toList _ R2.out Tryd.underlying24 rfl (by kernel_rfl) ?_); refine wpStill_nil ?_) | (refine Go.Proofs.YtmkcooamgojbpaaDoor.Veil.step (fun K hK => ?_); go_simp; refine hK _ ?_; clear hK K))
          (first | (refine Go.Proofs.YtmkcooamgojbpaaDoor.Veil.arm ?_; first | (refine still_load_mid rfl 24 (.tmp 72) rfl g1 (o1 + k * 2) rfl (rowC s).toList _ R1.out Tryd.underlying24 rfl (by kernel_rfl) ?_) | (refine still_load_mid rfl 24 (.tmp 77) rfl g2 (o2 + k * 2) rfl (rowC s).toList _ R2.out Tryd.underlying24 rfl (by kernel_rfl) ?_); refine wpStill_nil ?_) | (refine Go.Proofs.YtmkcooamgojbpaaDoor.Veil.step (fun K hK => ?_); go_simp; refine hK _ ?_; clear hK K))
          (first | (refine Go.Proofs.YtmkcooamgojbpaaDoor.Veil.arm ?_; first | (refine still_load_mid rfl 24 (.tmp 72) rfl g1 (o1 + k * 2) rfl (rowC s).toList _ R1.out Tryd.underlying24 rfl (by kernel_rfl) ?_) | (refine still_load_mid rfl 24 (.tmp 77) rfl g2 (o2 + k * 2) rfl (rowC s).toList _ R2.out Tryd.underlying24 rfl (by kernel_rfl) ?_); refine wpStill_nil ?_) | (refine Go.Proofs.YtmkcooamgojbpaaDoor.Veil.step (fun K hK => ?_); go_simp; refine hK _ ?_; clear hK K))
          (first | (refine Go.Proofs.YtmkcooamgojbpaaDoor.Veil.arm ?_; first | (refine still_load_mid rfl 24 (.tmp 72) rfl g1 (o1 + k * 2) rfl (rowC s).toList _ R1.out Tryd.underlying24 rfl (by kernel_rfl) ?_) | (refine still_load_mid rfl 24 (.tmp 77) rfl g2 (o2 + k * 2) rfl (rowC s).toList _ R2.out Tryd.underlying24 rfl (by kernel_rfl) ?_); refine wpStill_nil ?_) | (refine Go.Proofs.YtmkcooamgojbpaaDoor.Veil.step (fun K hK => ?_); go_simp; refine hK _ ?_; clear hK K))
          (first | (refine Go.Proofs.YtmkcooamgojbpaaDoor.Veil.arm ?_; first | (refine still_load_mid rfl 24 (.tmp 72) rfl g1 (o1 + k * 2) rfl (rowC s).toList _ R1.out Tryd.underlying24 rfl (by kernel_rfl) ?_) | (refine still_load_mid rfl 24 (.tmp 77) rfl g2 (o2 + k * 2) rfl (rowC s).toList _ R2.out Tryd.underlying24 rfl (by kernel_rfl) ?_); refine wpStill_nil ?_) | (refine Go.Proofs.YtmkcooamgojbpaaDoor.Veil.step (fun K hK => ?_); go_simp; refine hK _ ?_; clear hK K))
          (first | (refine Go.Proofs.YtmkcooamgojbpaaDoor.Veil.arm ?_; first | (refine still_load_mid rfl 24 (.tmp 72) rfl g1 (o1 + k * 2) rfl (rowC s).toList _ R1.out Tryd.underlying24 rfl (by kernel_rfl) ?_) | (refine still_load_mid rfl 24 (.tmp 77) rfl g2 (o2 + k * 2) rfl (rowC s).toList _ R2.out Tryd.underlying24 rfl (by kernel_rfl) ?_); refine wpStill_nil ?_) | (refine Go.Proofs.YtmkcooamgojbpaaDoor.Veil.step (fun K hK => ?_); go_simp; refine hK _ ?_; clear hK K))
          refine Go.Proofs.YtmkcooamgojbpaaDoor.Veil.nil ?_
          change wpList _ _ _ _ _ wr.drew
          simp only [rowC]
          go_wp2_with fail
          go_roundw
          case rel => exact ⟨k + 1, by omega, by go_num, HB.out.drew⟩
          case measure => simp [intOf]; omega
        · obtain rfl : k = c.tab.length := by omega
          have HE := Lib.hid (HW2.out.trans (HB.out.mono HW2.out.size))
          go_wp2_with fail
          go_ret
          exact ⟨rfl, HE.out⟩
end Go.Proofs.YtmkcooamgojbpaaDoor.Sheet

/- damperlaw40.SheetReads: the walk. -/
namespace Go.Proofs.YtmkcooamgojbpaaDoor.Sheet
open Go.RowKit Go.Proofs.YtmkcooamgojbpaaDoor.Kit Go.Proofs.YtmkcooamgojbpaaDoor.Blk Go.Proofs.YtmkcooamgojbpaaDoor.Words Go.Proofs.YtmkcooamgojbpaaDoor.Octets Go.Proofs.YtmkcooamgojbpaaDoor.Lines Go.Proofs.YtmkcooamgojbpaaDoor.Dec Go.Proofs.YtmkcooamgojbpaaDoor.Symbol Go.Proofs.YtmkcooamgojbpaaDoor.Check
attribute [local go_sem ↓] Go.wp_at_zero Go.wp_at_succ
set_option linter.unusedVariables false

set_option maxRecDepth 20000 in
set_option maxHeartbeats 4000000 in
theorem reads_law (l : Txt) (w : World) (hm : MX w) : Calls Tryd.prog 7 #[.string (strB l)] w (AliveIs w) := by
  have HM := Lib.hid hm
  have z1 : (strB l).size = l.length := strB_size l
  by_cases h : 3000 < l.length
  · have b1 : (3000 : Int) < (l.length : Int) := by omega
    clear hm
    go_enter Tryd.func7, Tryd.ntmps7
    go_wp2_with fail
    refine (alive_any w HM.out).mono ?_
    rintro e w1 ⟨rfl, hb⟩
    have HB := Lib.hid hb
    clear hb
    go_wp2_with fail
    go_ret
    exact ⟨rfl, HB.out⟩
  · have b1 : ¬ (3000 : Int) < (l.length : Int) := by omega
    have H1 := Lib.hid (fun W h => read_sheet_any l (by omega) W h)
    have H2 := Lib.hid (fun W => rread_sheet_any l (by omega) W)
    generalize resF (readF l) = r at H1 H2
    obtain ⟨c, n, f⟩ := r
    clear hm h
    go_enter Tryd.func7, Tryd.ntmps7
    go_wp2_with fail
    refine (H1.out w HM.out).mono ?_
    rintro e w1 ⟨sa, ta, sc, tc, rfl, hin1, hb1⟩
    have HB1 := Lib.hid (hb1.alloc hb1.size (.cells (c.cells sa ta sc tc) 53))
    have HX1 := Lib.hid (Blk.new w1 (c.cells sa ta sc tc) 53 w1.heap.size rfl)
    have HI1 := Lib.hid (hin1.below ((Below.refl _ _).alloc (Nat.le_refl _) (.cells (c.cells sa ta sc tc) 53)))
    clear hb1 hin1
    dsimp only
    unfold Cfg.cells
    go_upto_region 4 with fail
    change Code.wp _ _ _ _ (w1.alloc (.cells (c.cells sa ta sc tc) 53))
    generalize w1.alloc (.cells (c.cells sa ta sc tc) 53) = w2 at HB1 HX1 HI1 ⊢
    go_wp2_with fail
    refine (H2.out w2).mono ?_
    rintro e w3 ⟨sb, tb, sd, td, rfl, hin3, hb3⟩
    have HB3 := Lib.hid ((HB1.out.trans (hb3.mono HB1.out.size)).alloc (Nat.le_trans HB1.out.size hb3.size) (.cells (c.cells sb tb sd td) 53))
    have HX3 := Lib.hid ((HX1.out.below hb3 HX1.out.lt).old (.cells (c.cells sb tb sd td) 53))
    have HY3 := Lib.hid (Blk.new w3 (c.cells sb tb sd td) 53 w3.heap.size rfl)
    have HI3 := Lib.hid ((HI1.out.below hb3).below ((Below.refl _ _).alloc (Nat.le_refl _) (.cells (c.cells sb tb sd td) 53)))
    have HJ3 := Lib.hid (hin3.below ((Below.refl _ _).alloc (Nat.le_refl _) (.cells (c.cells sb tb sd td) 53)))
    clear hb3 hin3 HB1 HX1 HI1
    dsimp only
    unfold Cfg.cells
    go_upto_region 5 with fail
    change Code.wp _ _ _ _ (w3.alloc (.cells (c.cells sb tb sd td) 53))
    generalize w3.alloc (.cells (c.cells sb tb sd td) 53) = w4 at HB3 HX3 HY3 HI3 HJ3 ⊢
    have HS := Lib.hid (same_any c sa ta sb tb sc tc sd td w4 HI3.out HJ3.out)
    clear H1 H2
    go_wp2_with (first
      | (refine load_blk (by rfl) 53 _ (by rfl) w1.heap.size (by rfl) _ _ HX3.out _ Tryd.underlying53 rfl (by kernel_rfl) ?_)
      | (refine load_blk (by rfl) 53 _ (by rfl) w3.heap.size (by rfl) _ _ HY3.out _ Tryd.underlying53 rfl (by kernel_rfl) ?_))
    refine HS.out.mono ?_
    rintro e w5 ⟨rfl, hb5⟩
    have HB5 := Lib.hid (HB3.out.trans (hb5.mono HB3.out.size))
    have HA := Lib.hid (alive_any w5 (HM.out.below (n := 0) HB5.out))
    clear hb5 HS HB3 HX3 HY3 HI3 HJ3 HM
    go_wp2_with fail
    refine HA.out.mono ?_
    rintro e w9 ⟨rfl, hb9⟩
    have HB9 := Lib.hid (HB5.out.trans (hb9.mono HB5.out.size))
    clear hb9 HA
    go_wp2_with fail
    go_ret
    exact ⟨rfl, HB9.out⟩
theorem reads_law' (s : ByteArray) (w : World) (hm : MX w) : Calls Tryd.prog 7 #[.string s] w (AliveIs w) := by
  have h := reads_law s.data.toList w hm
  rwa [show strB s.data.toList = s by simp [strB]] at h
end Go.Proofs.YtmkcooamgojbpaaDoor.Sheet
