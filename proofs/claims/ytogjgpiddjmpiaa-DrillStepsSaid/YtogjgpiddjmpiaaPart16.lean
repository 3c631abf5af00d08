/- Parts of the proof: RefSteps. -/
import Derived.Test.YtogjgpiddjmpiaaPart14
import Derived.Test.YtogjgpiddjmpiaaPart15
import Derived.Test.YtogjgpiddjmpiaaPart1

/- The document's Steps. -/
namespace Go.Proofs.Ytogjgpiddjmpiaa.Steps
set_option linter.unusedVariables false
open Go.RowKit Go.Proofs.Ytogjgpiddjmpiaa.Kit Go.Proofs.Ytogjgpiddjmpiaa.Table Go.Proofs.Ytogjgpiddjmpiaa.Blk Go.Proofs.Ytogjgpiddjmpiaa.Octets Go.Proofs.Ytogjgpiddjmpiaa.Cmds Go.Proofs.Ytogjgpiddjmpiaa.Dice Go.Proofs.Ytogjgpiddjmpiaa.Throw Go.Proofs.Ytogjgpiddjmpiaa.Check Go.Proofs.Ytogjgpiddjmpiaa.Order Go.Proofs.Ytogjgpiddjmpiaa.Symbol Go.Proofs.Ytogjgpiddjmpiaa.Begin Go.Proofs.Ytogjgpiddjmpiaa.Price Go.Proofs.Ytogjgpiddjmpiaa.RefCheck Go.Proofs.Ytogjgpiddjmpiaa.CheckEq
attribute [local go_sem ↓] Go.wp_at_zero Go.wp_at_succ

/-- As Sw, with the first symbol in a block of its own. -/
structure Rw (w : World) (d : Nat) (cc : Array Value) (sb : Nat) (s : Sym) (W : World) (x : Int) (v : Value) (r : List (Stp × Value)) : Prop where
  base : Sw w d 134 cc W x v r
  sym : Blk W sb s.cells 136
  ne : sb ≠ d
/-- And a step that is being made in block X. -/
structure Rx (w : World) (d : Nat) (cc : Array Value) (sb : Nat) (s : Sym) (X : Nat) (W : World) (x : Int) (v : Value) (r : List (Stp × Value)) (rc : Array Value) : Prop where
  rw_ : Rw w d cc sb s W x v r
  res : Blk W X rc 123
  nx : v.ownBlock ≠ some X
  le : w.heap.size ≤ X
section
variable {w W W' : World} {d sb X : Nat} {cc rc : Array Value} {s : Sym} {x y : Int} {v v' u : Value} {r : List (Stp × Value)} {st : Stp}
theorem Rw.call (h : Rw w d cc sb s W x v r) (hd : Blk W' d #[.int .u64 y] 134) (hc : Chg W.heap.size d W W') : Rw w d cc sb s W' y v r :=
  ⟨h.base.call (by decide) (by decide) hd hc, hc.blk h.sym.lt h.ne h.sym, h.ne⟩
theorem Rw.below (h : Rw w d cc sb s W x v r) (hb : Below W.heap.size W W') : Rw w d cc sb s W' x v r := ⟨h.base.below hb, h.sym.below hb h.sym.lt, h.ne⟩
theorem Rw.alloc (h : Rw w d cc sb s W x v r) (o : Obj) : Rw w d cc sb s (W.alloc o) x v r := h.below ((Below.refl _ _).alloc (Nat.le_refl _) o)
theorem Rw.push (h : Rw w d cc sb s W x v r) (hu : BytesOf w.heap.size st.l u W)
    (hown : W'.ownsRow w.heap.size 123 4 v' (r.length + 1) (flat r ++ (stepC st.k st.y st.v u).toList)) (hg : W.grownBy W' v.ownBlock) : Rw w d cc sb s W' x v' (r ++ [(st, u)]) :=
  ⟨h.base.push (by decide) hu hown hg, blk_row' h.sym (by decide) h.base.row.1 hg, h.ne⟩
theorem ty_ne {B C T U : Nat} {cs ds : Array Value} (h : Blk W B cs T) (k : Blk W C ds U) (hT : T ≠ U) : B ≠ C := by
  rintro rfl
  have e : some (Obj.cells cs T (0, 0)) = some (Obj.cells ds U (0, 0)) := (show W.heap[B]? = _ from h).symm.trans k
  injection e with e
  injection e with _ e _
  exact hT e
theorem Rx.res_ne (h : Rx w d cc sb s X W x v r rc) : d ≠ X := ty_ne h.rw_.base.dice h.res (by decide)
theorem Rx.call (h : Rx w d cc sb s X W x v r rc) (hd : Blk W' d #[.int .u64 y] 134) (hc : Chg W.heap.size d W W') : Rx w d cc sb s X W' y v r rc :=
  ⟨h.rw_.call hd hc, hc.blk h.res.lt h.res_ne.symm h.res, h.nx, h.le⟩
theorem Rx.below (h : Rx w d cc sb s X W x v r rc) (hb : Below W.heap.size W W') : Rx w d cc sb s X W' x v r rc := ⟨h.rw_.below hb, h.res.below hb h.res.lt, h.nx, h.le⟩
theorem Rx.drew (h : Rx w d cc sb s X W x v r rc) : Rx w d cc sb s X W.drew x v r rc := h.below (Below.refl _ _).drew
theorem Rx.set (h : Rx w d cc sb s X W x v r rc) (j : Nat) (z : Value) : Rx w d cc sb s X (W.setCell ⟨X, j, none⟩ z) x v r (rc.setIfInBounds j z) := by
  refine ⟨⟨⟨h.rw_.base.cfg.apart _ _ (ty_ne h.res h.rw_.base.cfg (by decide)), h.rw_.base.dice.apart _ _ (ty_ne h.res h.rw_.base.dice (by decide)), ⟨h.rw_.base.row.1.kept (grown_cell W X j z) (.inr h.nx), fun p hp => bytes_cell (h.rw_.base.row.2 p hp) h.res j z⟩, h.rw_.base.bel.setCell h.le z, h.rw_.base.lt⟩, h.rw_.sym.apart _ _ (ty_ne h.res h.rw_.sym (by decide)), h.rw_.ne⟩, h.res.set j z, h.nx, h.le⟩
theorem Rx.sets (vs : List Value) : ∀ (o : Nat) (W : World) (rc : Array Value), Rx w d cc sb s X W x v r rc → ∃ rc', Rx w d cc sb s X (W.setCells X o vs) x v r rc' := by
  induction vs with
  | nil => intro o W rc h; exact ⟨rc, h⟩
  | cons z vs ih => intro o W rc h; exact ih (o + 1) _ _ (h.set o z)
theorem Rx.put (h : Rx w d cc sb s X W x v r rc) (vs : Array Value) (hs : vs.size = rc.size) : Rx w d cc sb s X (W.setCells X 0 vs.toList) x v r vs := by
  obtain ⟨rc', k⟩ := Rx.sets vs.toList 0 W rc h
  exact ⟨k.rw_, h.res.setCells vs hs, k.nx, k.le⟩
theorem Rx.fresh (h : Rw w d cc sb s W x v r) : Rx w d cc sb s W.heap.size (W.alloc (.cells rc 123)) x v r rc :=
  ⟨h.alloc _, Blk.new _ _ _ _ rfl, fun e => by have := (h.base.row.1.lt _ e).2; omega, h.base.bel.size⟩
theorem Rx.rput (hu : BytesOf w.heap.size st.l u W) (h : Rx w d cc sb s X W x v r rc) (vs : Array Value) : BytesOf w.heap.size st.l u (W.setCells X 0 vs.toList) := bytes_cells _ _ _ _ hu h.res
end
theorem own_new {w : World} {N : Nat} (hN : N ≤ w.heap.size) (k y a : Int) : (w.alloc (.cells (stepC k y a (.slice none 0 0)) 123)).ownsRow N 123 4 (.slice (some ⟨w.heap.size, 0, none⟩) 1 1) 1 (stepC k y a (.slice none 0 0)).toList :=
  ⟨rfl, .inr ⟨w.heap.size, 1, _, rfl, hN, heap_alloc_new w _, by decide, by decide, rfl, rfl⟩⟩
theorem kind_in {c : Cfg} {kind : Int} (h : rightF c kind = 0) : (checkF c).1 = 0 ∧ 0 ≤ kind ∧ kind ≤ 4 := by
  unfold rightF at h
  by_cases h1 : (checkF c).1 = 0
  · rw [if_pos h1] at h
    by_cases h2 : kind < 0 ∨ 4 < kind
    · rw [if_pos h2] at h; exact absurd h (by decide)
    · exact ⟨h1, by omega, by omega⟩
  · rw [if_neg h1] at h; exact absurd h h1

set_option maxRecDepth 20000 in
set_option maxHeartbeats 8000000 in
theorem ref_right (c : Cfg) (sa ta : Option Addr) (sc tc : Nat) (x kind : Int) (n : Nat) (w : World) (hin : c.In w sa ta) (hr : RightC c kind) (hn : n ≤ 500) :
    Calls Try.prog 19 #[.agg (c.cells sa ta sc tc), .int .i64 kind, .int .u64 x, .int .i64 n] w fun e w' => ∃ v, e = .returned (.tuple #[v, .int .i64 0]) ∧ Row w.heap.size v (stepsS c x kind n) w' ∧ Below w.heap.size w w' := by
  obtain ⟨i0, hi0, hz0, hz1, hz2⟩ := info_parts infoStep
  have hn0 : (0 : Int) ≤ (n : Int) := by omega
  have HRT := Lib.hid hr
  obtain ⟨hck, hk0, hk1⟩ := kind_in hr.rt
  have HCK := Lib.hid (show (rcheckF c).1 = 0 by rw [check_eq]; exact hck)
  have HIN := Lib.hid (fun W (hb : Below w.heap.size w W) => hin.below hb)
  have HSA := Lib.hid (show ∀ a, sa = some a → a.block < w.heap.size from fun a ha => by
    obtain ⟨b, off, e, hb, -⟩ := hin.syms 0 hr.n1
    rw [ha] at e; cases e; exact hb)
  obtain ⟨b, off, rfl, hbl, hc⟩ := hin.syms 0 hr.n1
  have HG := Lib.hid (show c.syms.getD 0 zeroSym = c.syms[0]'hr.n1 by rw [List.getD_eq_getElem?_getD, List.getElem?_eq_getElem hr.n1]; rfl)
  have hns := hr.n1
  generalize c.syms[0] = s at hc HG
  have HB := Lib.hid (Blk.new w (c.cells (some ⟨b, off, none⟩) ta sc tc) 34 w.heap.size rfl)
  have HW := Lib.hid (show Below w.heap.size w (w.alloc (.cells (c.cells (some ⟨b, off, none⟩) ta sc tc) 34)) from (Below.refl _ _).alloc (Nat.le_refl _) _)
  have HCS := Lib.hid hc
  clear hr hin hck hc
  go_enter Try.func19, Try.ntmps19
  go_wp2_with
    (refine load_blk (by rfl) 34 _ (by rfl) w.heap.size (by rfl) _ _ HB.out _ Try.underlying34 rfl (by kernel_rfl) ?_)
  refine (check_ref c _ ta sc tc _ (HIN.out _ HW.out)).mono ?_
  rintro e w1 ⟨rfl, hb1⟩
  replace HB := Lib.hid (HB.out.below hb1 HB.out.lt)
  replace HW := Lib.hid (HW.out.trans (hb1.mono (by simp)))
  rw [HCK.out]
  clear hb1
  go_upto_region 7 with fail
  have HS : Hid (Sw w w1.heap.size 134 (c.cells (some ⟨b, off, none⟩) ta sc tc) (w1.alloc (.cells #[.int .u64 x] 134)) x (.slice none 0 0) []) := Lib.hid
    ⟨HB.out.old _, Blk.new _ _ _ _ rfl, ⟨World.ownsRow_nil _ _ _ _, by simp⟩, HW.out.alloc HW.out.size _, HB.out.lt⟩
  generalize hw2 : w1.alloc (.cells #[.int .u64 x] 134) = w2 at HS ⊢
  clear hw2 HB HW
  generalize w1.heap.size = d at HS ⊢
  go_wp2_with
    (refine load_blk (by rfl) 34 _ (by rfl) w.heap.size (by rfl) _ _ HS.out.cfg _ Try.underlying34 rfl (by kernel_rfl) ?_)
  refine (rbegin_any c _ ta sc tc _ (HIN.out _ HS.out.bel)).mono ?_
  rintro e w3 ⟨rfl, hb3⟩
  replace HS := Lib.hid (HS.out.below hb3)
  clear hb3
  generalize hat : (findG c.tab).1 = at0 at HS ⊢
  have HAT := Lib.hid hat
  clear hat
  go_upto_region 9 with fail
  replace HS : Hid (Sw w d 134 (c.cells (some ⟨b, off, none⟩) ta sc tc) (w3.alloc (.cells (stepC 2 0 at0 (.slice none 0 0)) 123)) x (.slice (some ⟨w3.heap.size, 0, none⟩) 1 1) [(⟨2, 0, at0, []⟩, .slice none 0 0)]) := Lib.hid
    ⟨HS.out.cfg.old _, HS.out.dice.old _, ⟨own_new HS.out.bel.size 2 0 at0, by simp [BytesOf]⟩, HS.out.bel.alloc HS.out.bel.size _, HS.out.lt⟩
  unfold stepC at HS
  generalize hw4 : w3.alloc (.cells #[.int .i64 2, .int .i64 0, .int .i64 at0, .slice none 0 0] 123) = w4 at HS ⊢
  clear hw4
  generalize Value.slice (some ⟨w3.heap.size, 0, none⟩) 1 1 = v0 at HS ⊢
  have hrow : w4.rangeAt b off s.cells.toList := fun j v hv => by
    rw [HS.out.bel.cell (p := ⟨b, _, none⟩) hbl]; have h := HCS.out j v (by simpa using hv); simpa using h
  have HR := Lib.hid hrow
  have HZ := Lib.hid (Blk.new w4 symZ 136 w4.heap.size rfl)
  have hne : w4.heap.size ≠ d := by have := HS.out.dice.lt; omega
  have HRW : Hid (Rw w d (c.cells (some ⟨b, off, none⟩) ta sc tc) w4.heap.size s (w4.alloc (.cells s.cells 136)) x v0 [(⟨2, 0, at0, []⟩, .slice none 0 0)]) := Lib.hid
    ⟨HS.out.below ((Below.refl _ _).alloc (Nat.le_refl _) _), Blk.new _ _ _ _ rfl, hne⟩
  have c0 : w4.cell? ⟨w.heap.size, 0, none⟩ = some (.slice (some ⟨b, off, none⟩) c.syms.length sc) := HS.out.cfg.cell 0 rfl
  clear hrow hne HCS HS
  go_wp2_with (first
    | (refine wpList_load_mid (by rfl) 136 _ (by rfl) b off (by rfl) s.cells.toList _ HR.out Try.underlying136 rfl (by kernel_rfl) ?_)
    | (refine store_blk (by rfl) 136 _ _ (by rfl) w4.heap.size (by rfl) symZ s.cells 136 HZ.out (by rfl) (by rfl) (by kernel_rfl) (one_sym _) ?_; change wpList _ _ _ _ _ (World.setCells (w4.alloc (.cells symZ 136)) w4.heap.size 0 s.cells.toList); rw [alloc_setCells w4 symZ s.cells 136 rfl w4.heap.size rfl]; generalize w4.alloc (.cells s.cells 136) = w5 at HRW ⊢))
  generalize w4.heap.size = sb at HRW HR c0 HZ ⊢
  clear HR c0 HZ
  have HRL := Lib.hid (show stepsS c x kind n = [(⟨2, 0, at0, []⟩ : Stp)] ++ loopS c kind n 0 x by unfold stepsS; rw [HAT.out]; rfl)
  clear HAT
  go_loopw [15, 17] (fun v i wr => ∃ (k : Nat) (r : List (Stp × Value)) (y : Int), k ≤ n ∧ i = .int .i64 k ∧ Rw w d (c.cells (some ⟨b, off, none⟩) ta sc tc) sb s wr y v r ∧ r.length = k + 1 ∧ r.map (·.1) ++ loopS c kind (n - k) k y = stepsS c x kind n) (fun _ i _ => n - (intOf i).toNat)
  case atStart => exact ⟨0, _, x, by omega, rfl, HRW.out, rfl, HRL.out.symm⟩
  case round =>
    obtain ⟨k, r, y, hk, rfl, hs, hl, hf⟩ := hrel
    clear HRW HRL
    have HS := Lib.hid hs
    have HF := Lib.hid hf
    have HL := Lib.hid hl
    have HLEN := Lib.hid (show r.length ≤ 1000 by omega)
    clear hs hf hl
    by_cases hlt : k < n
    · have ⟨z0, z1⟩ := toss_in y 10 (by decide)
      have HX : Hid (Rx w d (c.cells (some ⟨b, off, none⟩) ta sc tc) sb s wr.heap.size (wr.alloc (.cells (stepC 0 0 0 (.slice none 0 0)) 123)) y u15 r (stepC 0 0 0 (.slice none 0 0))) := Lib.hid (Rx.fresh HS.out)
      have HZ := Lib.hid (Blk.new wr (stepC 0 0 0 (.slice none 0 0)) 123 wr.heap.size rfl)
      go_upto_region 14 with (refine store_blk (by rfl) 123 _ _ (by rfl) wr.heap.size (by rfl) (stepC 0 0 0 (.slice none 0 0)) (stepC 0 0 0 (.slice none 0 0)) 123 HZ.out (by rfl) rfl (by kernel_rfl) (one_stp _ _ _ _ _ _) ?_; change wpList _ _ _ _ _ (World.setCells (wr.alloc (.cells (stepC 0 0 0 (.slice none 0 0)) 123)) wr.heap.size 0 (stepC 0 0 0 (.slice none 0 0)).toList); rw [alloc_setCells wr (stepC 0 0 0 (.slice none 0 0)) (stepC 0 0 0 (.slice none 0 0)) 123 rfl wr.heap.size rfl]; generalize wr.alloc (.cells (stepC 0 0 0 (.slice none 0 0)) 123) = wx at HX ⊢)
      clear HZ HS
      go_wp2_with fail
      refine (ref_blk d y 10 _ (by decide) HX.out.rw_.base.dice).mono ?_
      rintro e w1 ⟨rfl, hq1, hq2, -⟩
      replace HX := Lib.hid (HX.out.call hq1 hq2)
      clear hq1 hq2
      by_cases h6 : 6 ≤ toss y 10
      · have hc0 := loop_other c kind y n k hlt h6
        have HY := fun W => Lib.hid (show BytesOf w.heap.size [] (.slice none 0 0) W from .inl ⟨rfl, rfl⟩)
        by_cases h8 : toss y 10 < 8
        · have HC := Lib.hid (show loopS c kind (n - k) k y = (⟨2, 0, 1 + toss (turn y) 3, []⟩ : Stp) :: loopS c kind (n - (k + 1)) ((k + 1 : Nat) : Int) (turn (turn y)) by rw [hc0]; simp only [otherS, if_pos h8])
          have ⟨t0, t1⟩ := toss_in (turn y) 3 (by decide)
          clear hc0
          go_wp2_with fail
          refine (ref_blk d (turn y) 3 _ (by decide) HX.out.rw_.base.dice).mono ?_
          rintro e w2 ⟨rfl, hq1, hq2, -⟩
          replace HX := Lib.hid (HX.out.call hq1 hq2)
          clear hq1 hq2
          go_upto_region 24 with
            (refine store_blk (by rfl) 123 _ _ (by rfl) wr.heap.size (by rfl) _ (stepC 2 0 (1 + toss (turn y) 3) (.slice none 0 0)) 123 HX.out.res (by rfl) rfl (by kernel_rfl) (one_stp _ _ _ _ _ _) ?_; replace HX := Lib.hid (HX.out.put (stepC 2 0 (1 + toss (turn y) 3) (.slice none 0 0)) rfl); generalize hwz : World.setCells w2 wr.heap.size 0 (stepC 2 0 (1 + toss (turn y) 3) (.slice none 0 0)).toList = wz at HX ⊢; clear hwz)
          replace HY := HY wz
          replace HS := Lib.hid (HX.out.rw_.alloc (.cells (stepC 2 0 (1 + toss (turn y) 3) (.slice none 0 0)) 123))
          have HB6 := Lib.hid HX.out.res
          replace HY := Lib.hid (bytes_alloc HY.out (.cells (stepC 2 0 (1 + toss (turn y) 3) (.slice none 0 0)) 123))
          have HNB := Lib.hid (Blk.new wz (stepC 2 0 (1 + toss (turn y) 3) (.slice none 0 0)) 123 wz.heap.size rfl)
          unfold stepC at HB6
          go_wp2_with (first
            | (refine load_blk (by rfl) 123 _ (by rfl) wr.heap.size (by rfl) _ _ HB6.out _ Try.underlying123 rfl (by kernel_rfl) ?_)
            |
            (at_builtin; refine wpList_append_lies _ (by rfl) _ _ _ (by rfl) w.heap.size 123 i0 (.agg (stepC 0 0 0 (.slice none 0 0))) 4 48 Try.underlying37 hi0 hz0 hz1 hz2 (by rfl) (by decide) _ r.length (flat r) (by rfl) HS.out.base.row.1 ⟨wz.heap.size, 0, none⟩ 1 1 (stepC 2 0 (1 + toss (turn y) 3) (.slice none 0 0)).toList (by rfl) (by rfl) (news_blk HNB.out) (one_mem (one_stp _ _ _ _ _ _)) (by decide) (by unfold maxLen; have := HLEN.out; omega) (by have := HLEN.out; omega) HS.out.base.bel.size (wz.heap.size + 1) (by simp) ?_; intro g cap2 w9 hown9 hgrow9 hat9 hlt9)
            )
          replace HS := Lib.hid (HS.out.push (st := ⟨2, 0, 1 + toss (turn y) 3, []⟩) HY.out hown9 hgrow9)
          clear hown9 hgrow9 hat9 hlt9 HNB HY HB6 HX
          go_roundw
          case rel => exact ⟨k + 1, _, turn (turn y), by omega, by go_num, HS.out, by simp [HL.out], by rw [← HF.out, HC.out]; simp⟩
          case measure => simp [intOf]; omega
        · by_cases h9 : toss y 10 = 8
          · have HC := Lib.hid (show loopS c kind (n - k) k y = ofS ⟨2, 0, 1 + toss (turn y) (k + 1), 0, 0, 0, 0, 0, 0⟩ :: loopS c kind (n - (k + 1)) ((k + 1 : Nat) : Int) (turn (turn y)) by rw [hc0]; simp only [otherS, if_neg h8, if_pos h9])
            have ⟨t0, t1⟩ := toss_in (turn y) ((k : Int) + 1) (by omega)
            have g8 : (toss y 10 == 8) = true := by simpa using h9
            clear hc0 h9 HY
            go_wp2_with fail
            refine (ref_blk d (turn y) ((k : Int) + 1) _ (by omega) HX.out.rw_.base.dice).mono ?_
            rintro e w2 ⟨rfl, hq1, hq2, -⟩
            replace HX := Lib.hid (HX.out.call hq1 hq2)
            clear hq1 hq2
            go_wp2_with fail
            refine (rof_any ⟨2, 0, 1 + toss (turn y) (k + 1), 0, 0, 0, 0, 0, 0⟩ _ (by dsimp only; omega) (by dsimp only; omega) (by dsimp only; omega) (by dsimp only; omega)).mono ?_
            have hle := HX.out.rw_.base.bel.size
            rintro e w3 h5
            obtain ⟨u, code, rfl, hby, hb5⟩ := of_step h5
            replace HX := Lib.hid (HX.out.below hb5)
            replace hby := bytes_mono hby hle
            obtain ⟨ua, un, uc, rfl⟩ := bytes_form hby
            clear h5 hb5 hle
            generalize ofS ⟨2, 0, 1 + toss (turn y) (k + 1), 0, 0, 0, 0, 0, 0⟩ = st at hby HC ⊢
            have HY := Lib.hid (bytes_cells (stepC st.k st.y st.v (.slice ua un uc)).toList 0 _ _ hby HX.out.res)
            clear hby
            go_upto_region 24 with (refine store_blk (by rfl) 123 _ _ (by rfl) wr.heap.size (by rfl) _ (stepC st.k st.y st.v (.slice ua un uc)) 123 HX.out.res (by rfl) rfl (by kernel_rfl) (one_stp _ _ _ _ _ _) ?_; replace HX := Lib.hid (HX.out.put (stepC st.k st.y st.v (.slice ua un uc)) rfl); generalize hwz : World.setCells w3 wr.heap.size 0 (stepC st.k st.y st.v (.slice ua un uc)).toList = wz at HX HY ⊢; clear hwz)
            replace HS := Lib.hid (HX.out.rw_.alloc (.cells (stepC st.k st.y st.v (.slice ua un uc)) 123))
            have HB6 := Lib.hid HX.out.res
            replace HY := Lib.hid (bytes_alloc HY.out (.cells (stepC st.k st.y st.v (.slice ua un uc)) 123))
            have HNB := Lib.hid (Blk.new wz (stepC st.k st.y st.v (.slice ua un uc)) 123 wz.heap.size rfl)
            unfold stepC at HB6
            go_wp2_with (first
              | (refine load_blk (by rfl) 123 _ (by rfl) wr.heap.size (by rfl) _ _ HB6.out _ Try.underlying123 rfl (by kernel_rfl) ?_)
              |
              (at_builtin; refine wpList_append_lies _ (by rfl) _ _ _ (by rfl) w.heap.size 123 i0 (.agg (stepC 0 0 0 (.slice none 0 0))) 4 48 Try.underlying37 hi0 hz0 hz1 hz2 (by rfl) (by decide) _ r.length (flat r) (by rfl) HS.out.base.row.1 ⟨wz.heap.size, 0, none⟩ 1 1 (stepC st.k st.y st.v (.slice ua un uc)).toList (by rfl) (by rfl) (news_blk HNB.out) (one_mem (one_stp _ _ _ _ _ _)) (by decide) (by unfold maxLen; have := HLEN.out; omega) (by have := HLEN.out; omega) HS.out.base.bel.size (wz.heap.size + 1) (by simp) ?_; intro g cap2 w9 hown9 hgrow9 hat9 hlt9)
              )
            replace HS := Lib.hid (HS.out.push (st := st) HY.out hown9 hgrow9)
            clear hown9 hgrow9 hat9 hlt9 HNB HY HB6 HX
            go_roundw
            case rel => exact ⟨k + 1, _, turn (turn y), by omega, by go_num, HS.out, by simp [HL.out], by rw [← HF.out, HC.out]; simp⟩
            case measure => simp [intOf]; omega
          · have g8 : (toss y 10 == 8) = false := by simpa using h9
            by_cases h7 : kind = 4 ∧ (k : Int) % 7 = 0
            · have HC := Lib.hid (show loopS c kind (n - k) k y = (⟨3, 0, max (c.index - c.index / 100 * toss (turn y) 25) 1, []⟩ : Stp) :: loopS c kind (n - (k + 1)) ((k + 1 : Nat) : Int) (turn (turn y)) by rw [hc0]; simp only [otherS, if_neg h8, if_neg h9, if_pos h7])
              have g7 : ((k : Int) % 7 == 0) = true := by simp [h7.2]
              have g4 : (kind == 4) = true := by simp [h7.1]
              have ⟨t0, t1⟩ := toss_in (turn y) 25 (by decide)
              have hx0 := HRT.out.x0
              have hx1 := HRT.out.x1
              have ⟨p0, p1⟩ := mul_top (c.index / 100) (toss (turn y) 25) 10995116278 25 (by omega) t0 (by omega) (by omega)
              have e1 := IntWalk.i64_in (c.index / 100 * toss (turn y) 25) (by omega)
              generalize hpr : c.index / 100 * toss (turn y) 25 = pr at p0 p1 HC
              rw (occs := .pos [2]) [hpr] at e1
              have e0 : IntKind.i64.wrap (c.index.tdiv 100) = c.index / 100 := by rw [Int.tdiv_eq_ediv_of_nonneg (by omega)]; exact IntWalk.i64_in _ (by omega)
              have e2 := IntWalk.i64_in (c.index - pr) (by omega)
              clear hc0 h9 h7 hpr
              go_wp2_with fail
              replace HX := Lib.hid HX.out.drew
              refine wp_region_held_drew (S := (fun w' => w'.cell? ⟨w.heap.size, 2, none⟩ = some (.int .i64 c.index))) (by kernel_rfl) (HX.out.rw_.base.cfg.cell 2 rfl) (fun hHeld => ?_)
              generalize w1.drew = w2 at HX hHeld ⊢
              refine wpAnyH_take (i := 0) (oi := ⟨some 115, _, _, _, _, _⟩) (v := (.pointer (some ⟨w.heap.size, 2, none⟩))) rfl (by kernel_rfl) (by kernel_rfl) (by kernel_rfl) (fun _ _ _ h => h) (Or.inl ⟨by rfl, fun w hSw => by (try dsimp only at hSw); go_simp⟩) (by assumption) ?_
              simp only [Act.put, List.setIfInBounds_toArray, List.set_cons_zero, List.set_cons_succ]
              refine wpAnyH_take (i := 1) (oi := ⟨some 116, _, _, _, _, _⟩) (v := (.int .i64 c.index)) rfl (by kernel_rfl) (by kernel_rfl) (by kernel_rfl) (fun _ _ _ h => h) (Or.inl ⟨by rfl, fun w hSw => by (try dsimp only at hSw); go_simp⟩) (by assumption) ?_
              simp only [Act.put, List.setIfInBounds_toArray, List.set_cons_zero, List.set_cons_succ]
              refine wpAnyH_take (i := 2) (oi := ⟨some 117, _, _, _, _, _⟩) (v := (.pointer (some ⟨w.heap.size, 2, none⟩))) rfl (by kernel_rfl) (by kernel_rfl) (by kernel_rfl) (fun _ _ _ h => h) (Or.inl ⟨by rfl, fun w hSw => by (try dsimp only at hSw); go_simp⟩) (by assumption) ?_
              simp only [Act.put, List.setIfInBounds_toArray, List.set_cons_zero, List.set_cons_succ]
              refine wpAnyH_take (i := 3) (oi := ⟨some 118, _, _, _, _, _⟩) (v := (.int .i64 c.index)) rfl (by kernel_rfl) (by kernel_rfl) (by kernel_rfl) (fun _ _ _ h => h) (Or.inl ⟨by rfl, fun w hSw => by (try dsimp only at hSw); go_simp⟩) (by assumption) ?_
              simp only [Act.put, List.setIfInBounds_toArray, List.set_cons_zero, List.set_cons_succ]
              refine wpAnyH_take (i := 4) (oi := ⟨some 119, _, _, _, _, _⟩) (v := (.int .i64 (c.index / 100))) rfl (by kernel_rfl) (by kernel_rfl) (by kernel_rfl) (fun _ _ _ h => h) (Or.inl ⟨by rfl, fun w hSw => by (try dsimp only at hSw); go_simp⟩) (by assumption) ?_
              simp only [Act.put, List.setIfInBounds_toArray, List.set_cons_zero, List.set_cons_succ]
              refine wpAnyH_take (i := 5) (oi := ⟨some 120, _, _, _, _, _⟩) (v := (.pointer (some ⟨d, 0, none⟩))) rfl (by kernel_rfl) (by kernel_rfl) (by kernel_rfl) (fun _ _ _ h => h) (Or.inl ⟨by rfl, fun w hSw => by (try dsimp only at hSw); go_simp⟩) (by assumption) ?_
              simp only [Act.put, List.setIfInBounds_toArray, List.set_cons_zero, List.set_cons_succ]
              refine wpAnyH_ready (rs := [6]) (by kernel_rfl) (by simp) ?_
              refine AllReadyH.cons (o := ⟨some 121, _, _, _, _, _⟩) rfl (fun KK hK => ?_) AllReadyH.nil
              go_simp
              refine (ref_blk d (turn y) 25 _ (by decide) HX.out.rw_.base.dice).mono ?_
              rintro e w3 ⟨rfl, hq1, hq2, -⟩
              replace HX := Lib.hid (HX.out.call hq1 hq2)
              clear hq1 hq2
              go_wp2_with fail
              refine hK.out _ _ (HX.out.rw_.base.cfg.cell 2 rfl) (fun hHeld => ?_)
              clear hK; try clear KK
              try simp only [Act.put, List.setIfInBounds_toArray, List.set_cons_zero, List.set_cons_succ]
              refine wpAnyH_take (i := 7) (oi := ⟨some 122, _, _, _, _, _⟩) (v := (.int .i64 pr)) rfl (by kernel_rfl) (by kernel_rfl) (by kernel_rfl) (fun _ _ _ h => h) (Or.inl ⟨by rfl, fun w hSw => by (try dsimp only at hSw); go_simp⟩) (by assumption) ?_
              simp only [Act.put, List.setIfInBounds_toArray, List.set_cons_zero, List.set_cons_succ]
              refine wpAnyH_take (i := 8) (oi := ⟨some 123, _, _, _, _, _⟩) (v := (.int .i64 (c.index - pr))) rfl (by kernel_rfl) (by kernel_rfl) (by kernel_rfl) (fun _ _ _ h => h) (Or.inl ⟨by rfl, fun w hSw => by (try dsimp only at hSw); go_simp⟩) (by assumption) ?_
              simp only [Act.put, List.setIfInBounds_toArray, List.set_cons_zero, List.set_cons_succ]
              refine wpAnyH_take (i := 9) (oi := ⟨some 124, _, _, _, _, _⟩) (v := (.int .i64 (max (c.index - pr) 1))) rfl (by kernel_rfl) (by kernel_rfl) (by kernel_rfl) (fun _ _ _ h => h) (Or.inl ⟨by rfl, fun w hSw => by (try dsimp only at hSw); go_simp⟩) (by assumption) ?_
              simp only [Act.put, List.setIfInBounds_toArray, List.set_cons_zero, List.set_cons_succ]
              refine wpAnyH_take (i := 10) (oi := ⟨some 125, _, _, _, _, _⟩) (v := (.agg #[.int .i64 3, .int .i64 0, .int .i64 (max (c.index - pr) 1), .slice none 0 0])) rfl (by kernel_rfl) (by kernel_rfl) (by kernel_rfl) (fun _ _ _ h => h) (Or.inl ⟨by rfl, fun w hSw => by (try dsimp only at hSw); go_simp⟩) (by assumption) ?_
              simp only [Act.put, List.setIfInBounds_toArray, List.set_cons_zero, List.set_cons_succ]
              refine wpAnyH_ready (rs := [11]) (by kernel_rfl) (by simp) ?_
              refine AllReadyH.cons (o := ⟨none, _, _, _, _, _⟩) rfl (fun KK hK => ?_) AllReadyH.nil
              refine step_store_blk (by rfl) 123 _ _ (by rfl) wr.heap.size (by rfl) _ (stepC 3 0 (max (c.index - pr) 1) (.slice none 0 0)) 123 HX.out.res (by rfl) rfl (by kernel_rfl) (one_stp _ _ _ _ _ _) ?_
              replace HX := Lib.hid (HX.out.put (stepC 3 0 (max (c.index - pr) 1) (.slice none 0 0)) rfl)
              refine hK.out _ _ (HX.out.rw_.base.cfg.cell 2 rfl) (fun hHeld => ?_)
              clear hK; try clear KK
              refine wpAnyH_done (by kernel_rfl) ?_ _
              generalize hwz : World.setCells w3 wr.heap.size 0 (stepC 3 0 (max (c.index - pr) 1) (.slice none 0 0)).toList = wz at HX hHeld ⊢
              clear hwz hHeld e0 e1 e2
              replace HY := HY wz
              replace HS := Lib.hid (HX.out.rw_.alloc (.cells (stepC 3 0 (max (c.index - pr) 1) (.slice none 0 0)) 123))
              have HB6 := Lib.hid HX.out.res
              replace HY := Lib.hid (bytes_alloc HY.out (.cells (stepC 3 0 (max (c.index - pr) 1) (.slice none 0 0)) 123))
              have HNB := Lib.hid (Blk.new wz (stepC 3 0 (max (c.index - pr) 1) (.slice none 0 0)) 123 wz.heap.size rfl)
              unfold stepC at HB6
              go_wp2_with (first
                | (refine load_blk (by rfl) 123 _ (by rfl) wr.heap.size (by rfl) _ _ HB6.out _ Try.underlying123 rfl (by kernel_rfl) ?_)
                |
                (at_builtin; refine wpList_append_lies _ (by rfl) _ _ _ (by rfl) w.heap.size 123 i0 (.agg (stepC 0 0 0 (.slice none 0 0))) 4 48 Try.underlying37 hi0 hz0 hz1 hz2 (by rfl) (by decide) _ r.length (flat r) (by rfl) HS.out.base.row.1 ⟨wz.heap.size, 0, none⟩ 1 1 (stepC 3 0 (max (c.index - pr) 1) (.slice none 0 0)).toList (by rfl) (by rfl) (news_blk HNB.out) (one_mem (one_stp _ _ _ _ _ _)) (by decide) (by unfold maxLen; have := HLEN.out; omega) (by have := HLEN.out; omega) HS.out.base.bel.size (wz.heap.size + 1) (by simp) ?_; intro g cap2 w9 hown9 hgrow9 hat9 hlt9)
                )
              replace HS := Lib.hid (HS.out.push (st := ⟨3, 0, max (c.index - pr) 1, []⟩) HY.out hown9 hgrow9)
              clear hown9 hgrow9 hat9 hlt9 HNB HY HB6 HX
              go_roundw
              case rel => exact ⟨k + 1, _, turn (turn y), by omega, by go_num, HS.out, by simp [HL.out], by rw [← HF.out, HC.out]; simp⟩
              case measure => simp [intOf]; omega
            · by_cases h4 : kind = 4
              · have g7 : ((k : Int) % 7 == 0) = false := by simp; exact fun h => h7 ⟨h4, h⟩
                have g4 : (kind == 4) = true := by simp [h4]
                have hcs : loopS c kind (n - k) k y = (⟨4, 0, max (s.ref - s.grid * toss (turn y) 5) 0, []⟩ : Stp) :: loopS c kind (n - (k + 1)) ((k + 1 : Nat) : Int) (turn (turn y)) := by rw [hc0]; simp only [otherS, if_neg h8, if_neg h9, if_neg h7, HG.out]
                have HC := Lib.hid hcs
                have ⟨t0, t1⟩ := toss_in (turn y) 5 (by decide)
                obtain ⟨hs0, hs1, hs2, hs3⟩ := HRT.out.head
                rw [HG.out] at hs0 hs1 hs2 hs3
                have ⟨p0, p1⟩ := mul_top s.grid (toss (turn y) 5) 1099511627776 5 (by omega) t0 (by omega) (by omega)
                have e1 := IntWalk.i64_in (s.grid * toss (turn y) 5) (by omega)
                clear hcs
                generalize hpr : s.grid * toss (turn y) 5 = pr at p0 p1 HC
                rw (occs := .pos [2]) [hpr] at e1
                have e2 := IntWalk.i64_in (s.ref - pr) (by omega)
                clear hc0 h9 h7 h4 hpr
                go_wp2_with fail
                replace HX := Lib.hid HX.out.drew
                refine wp_region_held_drew (S := (fun w' => w'.cell? ⟨sb, 0, none⟩ = some (.int .i64 s.grid) ∧ w'.cell? ⟨sb, 1, none⟩ = some (.int .i64 s.ref))) (by kernel_rfl) ⟨HX.out.rw_.sym.cell 0 rfl, HX.out.rw_.sym.cell 1 rfl⟩ (fun hHeld => ?_)
                generalize w1.drew = w2 at HX hHeld ⊢
                refine wpAnyH_take (i := 0) (oi := ⟨some 65, _, _, _, _, _⟩) (v := (.pointer (some ⟨sb, 1, none⟩))) rfl (by kernel_rfl) (by kernel_rfl) (by kernel_rfl) (fun _ _ _ h => h) (Or.inl ⟨by rfl, fun w hSw => by (try dsimp only at hSw); go_simp⟩) (by assumption) ?_
                simp only [Act.put, List.setIfInBounds_toArray, List.set_cons_zero, List.set_cons_succ]
                refine wpAnyH_take (i := 1) (oi := ⟨some 66, _, _, _, _, _⟩) (v := (.int .i64 s.ref)) rfl (by kernel_rfl) (by kernel_rfl) (by kernel_rfl) (fun _ _ _ h => h) (Or.inl ⟨by rfl, fun w hSw => by (try dsimp only at hSw); go_simp⟩) (by assumption) ?_
                simp only [Act.put, List.setIfInBounds_toArray, List.set_cons_zero, List.set_cons_succ]
                refine wpAnyH_take (i := 2) (oi := ⟨some 67, _, _, _, _, _⟩) (v := (.pointer (some ⟨sb, 0, none⟩))) rfl (by kernel_rfl) (by kernel_rfl) (by kernel_rfl) (fun _ _ _ h => h) (Or.inl ⟨by rfl, fun w hSw => by (try dsimp only at hSw); go_simp⟩) (by assumption) ?_
                simp only [Act.put, List.setIfInBounds_toArray, List.set_cons_zero, List.set_cons_succ]
                refine wpAnyH_take (i := 3) (oi := ⟨some 68, _, _, _, _, _⟩) (v := (.int .i64 s.grid)) rfl (by kernel_rfl) (by kernel_rfl) (by kernel_rfl) (fun _ _ _ h => h) (Or.inl ⟨by rfl, fun w hSw => by (try dsimp only at hSw); go_simp⟩) (by assumption) ?_
                simp only [Act.put, List.setIfInBounds_toArray, List.set_cons_zero, List.set_cons_succ]
                refine wpAnyH_take (i := 4) (oi := ⟨some 69, _, _, _, _, _⟩) (v := (.pointer (some ⟨d, 0, none⟩))) rfl (by kernel_rfl) (by kernel_rfl) (by kernel_rfl) (fun _ _ _ h => h) (Or.inl ⟨by rfl, fun w hSw => by (try dsimp only at hSw); go_simp⟩) (by assumption) ?_
                simp only [Act.put, List.setIfInBounds_toArray, List.set_cons_zero, List.set_cons_succ]
                refine wpAnyH_ready (rs := [5]) (by kernel_rfl) (by simp) ?_
                refine AllReadyH.cons (o := ⟨some 70, _, _, _, _, _⟩) rfl (fun KK hK => ?_) AllReadyH.nil
                go_simp
                refine (ref_blk d (turn y) 5 _ (by decide) HX.out.rw_.base.dice).mono ?_
                rintro e w3 ⟨rfl, hq1, hq2, -⟩
                replace HX := Lib.hid (HX.out.call hq1 hq2)
                clear hq1 hq2
                go_wp2_with fail
                refine hK.out _ _ ⟨HX.out.rw_.sym.cell 0 rfl, HX.out.rw_.sym.cell 1 rfl⟩ (fun hHeld => ?_)
                clear hK; try clear KK
                try simp only [Act.put, List.setIfInBounds_toArray, List.set_cons_zero, List.set_cons_succ]
                refine wpAnyH_take (i := 6) (oi := ⟨some 71, _, _, _, _, _⟩) (v := (.int .i64 pr)) rfl (by kernel_rfl) (by kernel_rfl) (by kernel_rfl) (fun _ _ _ h => h) (Or.inl ⟨by rfl, fun w hSw => by (try dsimp only at hSw); go_simp⟩) (by assumption) ?_
                simp only [Act.put, List.setIfInBounds_toArray, List.set_cons_zero, List.set_cons_succ]
                refine wpAnyH_take (i := 7) (oi := ⟨some 72, _, _, _, _, _⟩) (v := (.int .i64 (s.ref - pr))) rfl (by kernel_rfl) (by kernel_rfl) (by kernel_rfl) (fun _ _ _ h => h) (Or.inl ⟨by rfl, fun w hSw => by (try dsimp only at hSw); go_simp⟩) (by assumption) ?_
                simp only [Act.put, List.setIfInBounds_toArray, List.set_cons_zero, List.set_cons_succ]
                refine wpAnyH_take (i := 8) (oi := ⟨some 73, _, _, _, _, _⟩) (v := (.int .i64 (max (s.ref - pr) 0))) rfl (by kernel_rfl) (by kernel_rfl) (by kernel_rfl) (fun _ _ _ h => h) (Or.inl ⟨by rfl, fun w hSw => by (try dsimp only at hSw); go_simp⟩) (by assumption) ?_
                simp only [Act.put, List.setIfInBounds_toArray, List.set_cons_zero, List.set_cons_succ]
                refine wpAnyH_take (i := 9) (oi := ⟨some 74, _, _, _, _, _⟩) (v := (.agg #[.int .i64 4, .int .i64 0, .int .i64 (max (s.ref - pr) 0), .slice none 0 0])) rfl (by kernel_rfl) (by kernel_rfl) (by kernel_rfl) (fun _ _ _ h => h) (Or.inl ⟨by rfl, fun w hSw => by (try dsimp only at hSw); go_simp⟩) (by assumption) ?_
                simp only [Act.put, List.setIfInBounds_toArray, List.set_cons_zero, List.set_cons_succ]
                refine wpAnyH_ready (rs := [10]) (by kernel_rfl) (by simp) ?_
                refine AllReadyH.cons (o := ⟨none, _, _, _, _, _⟩) rfl (fun KK hK => ?_) AllReadyH.nil
                refine step_store_blk (by rfl) 123 _ _ (by rfl) wr.heap.size (by rfl) _ (stepC 4 0 (max (s.ref - pr) 0) (.slice none 0 0)) 123 HX.out.res (by rfl) rfl (by kernel_rfl) (one_stp _ _ _ _ _ _) ?_
                replace HX := Lib.hid (HX.out.put (stepC 4 0 (max (s.ref - pr) 0) (.slice none 0 0)) rfl)
                refine hK.out _ _ ⟨HX.out.rw_.sym.cell 0 rfl, HX.out.rw_.sym.cell 1 rfl⟩ (fun hHeld => ?_)
                clear hK; try clear KK
                refine wpAnyH_done (by kernel_rfl) ?_ _
                generalize hwz : World.setCells w3 wr.heap.size 0 (stepC 4 0 (max (s.ref - pr) 0) (.slice none 0 0)).toList = wz at HX hHeld ⊢
                clear hwz hHeld e1 e2
                replace HY := HY wz
                replace HS := Lib.hid (HX.out.rw_.alloc (.cells (stepC 4 0 (max (s.ref - pr) 0) (.slice none 0 0)) 123))
                have HB6 := Lib.hid HX.out.res
                replace HY := Lib.hid (bytes_alloc HY.out (.cells (stepC 4 0 (max (s.ref - pr) 0) (.slice none 0 0)) 123))
                have HNB := Lib.hid (Blk.new wz (stepC 4 0 (max (s.ref - pr) 0) (.slice none 0 0)) 123 wz.heap.size rfl)
                unfold stepC at HB6
                go_wp2_with (first
                  | (refine load_blk (by rfl) 123 _ (by rfl) wr.heap.size (by rfl) _ _ HB6.out _ Try.underlying123 rfl (by kernel_rfl) ?_)
                  |
                  (at_builtin; refine wpList_append_lies _ (by rfl) _ _ _ (by rfl) w.heap.size 123 i0 (.agg (stepC 0 0 0 (.slice none 0 0))) 4 48 Try.underlying37 hi0 hz0 hz1 hz2 (by rfl) (by decide) _ r.length (flat r) (by rfl) HS.out.base.row.1 ⟨wz.heap.size, 0, none⟩ 1 1 (stepC 4 0 (max (s.ref - pr) 0) (.slice none 0 0)).toList (by rfl) (by rfl) (news_blk HNB.out) (one_mem (one_stp _ _ _ _ _ _)) (by decide) (by unfold maxLen; have := HLEN.out; omega) (by have := HLEN.out; omega) HS.out.base.bel.size (wz.heap.size + 1) (by simp) ?_; intro g cap2 w9 hown9 hgrow9 hat9 hlt9)
                  )
                replace HS := Lib.hid (HS.out.push (st := ⟨4, 0, max (s.ref - pr) 0, []⟩) HY.out hown9 hgrow9)
                clear hown9 hgrow9 hat9 hlt9 HNB HY HB6 HX
                go_roundw
                case rel => exact ⟨k + 1, _, turn (turn y), by omega, by go_num, HS.out, by simp [HL.out], by rw [← HF.out, HC.out]; simp⟩
                case measure => simp [intOf]; omega
              · have g4 : (kind == 4) = false := by simp [h4]
                have hcs : loopS c kind (n - k) k y = (⟨4, 0, max (s.ref - s.grid * toss (turn y) 5) 0, []⟩ : Stp) :: loopS c kind (n - (k + 1)) ((k + 1 : Nat) : Int) (turn (turn y)) := by rw [hc0]; simp only [otherS, if_neg h8, if_neg h9, if_neg h7, HG.out]
                have HC := Lib.hid hcs
                have ⟨t0, t1⟩ := toss_in (turn y) 5 (by decide)
                obtain ⟨hs0, hs1, hs2, hs3⟩ := HRT.out.head
                rw [HG.out] at hs0 hs1 hs2 hs3
                have ⟨p0, p1⟩ := mul_top s.grid (toss (turn y) 5) 1099511627776 5 (by omega) t0 (by omega) (by omega)
                have e1 := IntWalk.i64_in (s.grid * toss (turn y) 5) (by omega)
                clear hcs
                generalize hpr : s.grid * toss (turn y) 5 = pr at p0 p1 HC
                rw (occs := .pos [2]) [hpr] at e1
                have e2 := IntWalk.i64_in (s.ref - pr) (by omega)
                clear hc0 h9 h7 h4 hpr
                go_wp2_with fail
                replace HX := Lib.hid HX.out.drew
                refine wp_region_held_drew (S := (fun w' => w'.cell? ⟨sb, 0, none⟩ = some (.int .i64 s.grid) ∧ w'.cell? ⟨sb, 1, none⟩ = some (.int .i64 s.ref))) (by kernel_rfl) ⟨HX.out.rw_.sym.cell 0 rfl, HX.out.rw_.sym.cell 1 rfl⟩ (fun hHeld => ?_)
                generalize w1.drew = w2 at HX hHeld ⊢
                refine wpAnyH_take (i := 0) (oi := ⟨some 65, _, _, _, _, _⟩) (v := (.pointer (some ⟨sb, 1, none⟩))) rfl (by kernel_rfl) (by kernel_rfl) (by kernel_rfl) (fun _ _ _ h => h) (Or.inl ⟨by rfl, fun w hSw => by (try dsimp only at hSw); go_simp⟩) (by assumption) ?_
                simp only [Act.put, List.setIfInBounds_toArray, List.set_cons_zero, List.set_cons_succ]
                refine wpAnyH_take (i := 1) (oi := ⟨some 66, _, _, _, _, _⟩) (v := (.int .i64 s.ref)) rfl (by kernel_rfl) (by kernel_rfl) (by kernel_rfl) (fun _ _ _ h => h) (Or.inl ⟨by rfl, fun w hSw => by (try dsimp only at hSw); go_simp⟩) (by assumption) ?_
                simp only [Act.put, List.setIfInBounds_toArray, List.set_cons_zero, List.set_cons_succ]
                refine wpAnyH_take (i := 2) (oi := ⟨some 67, _, _, _, _, _⟩) (v := (.pointer (some ⟨sb, 0, none⟩))) rfl (by kernel_rfl) (by kernel_rfl) (by kernel_rfl) (fun _ _ _ h => h) (Or.inl ⟨by rfl, fun w hSw => by (try dsimp only at hSw); go_simp⟩) (by assumption) ?_
                simp only [Act.put, List.setIfInBounds_toArray, List.set_cons_zero, List.set_cons_succ]
                refine wpAnyH_take (i := 3) (oi := ⟨some 68, _, _, _, _, _⟩) (v := (.int .i64 s.grid)) rfl (by kernel_rfl) (by kernel_rfl) (by kernel_rfl) (fun _ _ _ h => h) (Or.inl ⟨by rfl, fun w hSw => by (try dsimp only at hSw); go_simp⟩) (by assumption) ?_
                simp only [Act.put, List.setIfInBounds_toArray, List.set_cons_zero, List.set_cons_succ]
                refine wpAnyH_take (i := 4) (oi := ⟨some 69, _, _, _, _, _⟩) (v := (.pointer (some ⟨d, 0, none⟩))) rfl (by kernel_rfl) (by kernel_rfl) (by kernel_rfl) (fun _ _ _ h => h) (Or.inl ⟨by rfl, fun w hSw => by (try dsimp only at hSw); go_simp⟩) (by assumption) ?_
                simp only [Act.put, List.setIfInBounds_toArray, List.set_cons_zero, List.set_cons_succ]
                refine wpAnyH_ready (rs := [5]) (by kernel_rfl) (by simp) ?_
                refine AllReadyH.cons (o := ⟨some 70, _, _, _, _, _⟩) rfl (fun KK hK => ?_) AllReadyH.nil
                go_simp
                refine (ref_blk d (turn y) 5 _ (by decide) HX.out.rw_.base.dice).mono ?_
                rintro e w3 ⟨rfl, hq1, hq2, -⟩
                replace HX := Lib.hid (HX.out.call hq1 hq2)
                clear hq1 hq2
                go_wp2_with fail
                refine hK.out _ _ ⟨HX.out.rw_.sym.cell 0 rfl, HX.out.rw_.sym.cell 1 rfl⟩ (fun hHeld => ?_)
                clear hK; try clear KK
                try simp only [Act.put, List.setIfInBounds_toArray, List.set_cons_zero, List.set_cons_succ]
                refine wpAnyH_take (i := 6) (oi := ⟨some 71, _, _, _, _, _⟩) (v := (.int .i64 pr)) rfl (by kernel_rfl) (by kernel_rfl) (by kernel_rfl) (fun _ _ _ h => h) (Or.inl ⟨by rfl, fun w hSw => by (try dsimp only at hSw); go_simp⟩) (by assumption) ?_
                simp only [Act.put, List.setIfInBounds_toArray, List.set_cons_zero, List.set_cons_succ]
                refine wpAnyH_take (i := 7) (oi := ⟨some 72, _, _, _, _, _⟩) (v := (.int .i64 (s.ref - pr))) rfl (by kernel_rfl) (by kernel_rfl) (by kernel_rfl) (fun _ _ _ h => h) (Or.inl ⟨by rfl, fun w hSw => by (try dsimp only at hSw); go_simp⟩) (by assumption) ?_
                simp only [Act.put, List.setIfInBounds_toArray, List.set_cons_zero, List.set_cons_succ]
                refine wpAnyH_take (i := 8) (oi := ⟨some 73, _, _, _, _, _⟩) (v := (.int .i64 (max (s.ref - pr) 0))) rfl (by kernel_rfl) (by kernel_rfl) (by kernel_rfl) (fun _ _ _ h => h) (Or.inl ⟨by rfl, fun w hSw => by (try dsimp only at hSw); go_simp⟩) (by assumption) ?_
                simp only [Act.put, List.setIfInBounds_toArray, List.set_cons_zero, List.set_cons_succ]
                refine wpAnyH_take (i := 9) (oi := ⟨some 74, _, _, _, _, _⟩) (v := (.agg #[.int .i64 4, .int .i64 0, .int .i64 (max (s.ref - pr) 0), .slice none 0 0])) rfl (by kernel_rfl) (by kernel_rfl) (by kernel_rfl) (fun _ _ _ h => h) (Or.inl ⟨by rfl, fun w hSw => by (try dsimp only at hSw); go_simp⟩) (by assumption) ?_
                simp only [Act.put, List.setIfInBounds_toArray, List.set_cons_zero, List.set_cons_succ]
                refine wpAnyH_ready (rs := [10]) (by kernel_rfl) (by simp) ?_
                refine AllReadyH.cons (o := ⟨none, _, _, _, _, _⟩) rfl (fun KK hK => ?_) AllReadyH.nil
                refine step_store_blk (by rfl) 123 _ _ (by rfl) wr.heap.size (by rfl) _ (stepC 4 0 (max (s.ref - pr) 0) (.slice none 0 0)) 123 HX.out.res (by rfl) rfl (by kernel_rfl) (one_stp _ _ _ _ _ _) ?_
                replace HX := Lib.hid (HX.out.put (stepC 4 0 (max (s.ref - pr) 0) (.slice none 0 0)) rfl)
                refine hK.out _ _ ⟨HX.out.rw_.sym.cell 0 rfl, HX.out.rw_.sym.cell 1 rfl⟩ (fun hHeld => ?_)
                clear hK; try clear KK
                refine wpAnyH_done (by kernel_rfl) ?_ _
                generalize hwz : World.setCells w3 wr.heap.size 0 (stepC 4 0 (max (s.ref - pr) 0) (.slice none 0 0)).toList = wz at HX hHeld ⊢
                clear hwz hHeld e1 e2
                replace HY := HY wz
                replace HS := Lib.hid (HX.out.rw_.alloc (.cells (stepC 4 0 (max (s.ref - pr) 0) (.slice none 0 0)) 123))
                have HB6 := Lib.hid HX.out.res
                replace HY := Lib.hid (bytes_alloc HY.out (.cells (stepC 4 0 (max (s.ref - pr) 0) (.slice none 0 0)) 123))
                have HNB := Lib.hid (Blk.new wz (stepC 4 0 (max (s.ref - pr) 0) (.slice none 0 0)) 123 wz.heap.size rfl)
                unfold stepC at HB6
                go_wp2_with (first
                  | (refine load_blk (by rfl) 123 _ (by rfl) wr.heap.size (by rfl) _ _ HB6.out _ Try.underlying123 rfl (by kernel_rfl) ?_)
                  |
                  (at_builtin; refine wpList_append_lies _ (by rfl) _ _ _ (by rfl) w.heap.size 123 i0 (.agg (stepC 0 0 0 (.slice none 0 0))) 4 48 Try.underlying37 hi0 hz0 hz1 hz2 (by rfl) (by decide) _ r.length (flat r) (by rfl) HS.out.base.row.1 ⟨wz.heap.size, 0, none⟩ 1 1 (stepC 4 0 (max (s.ref - pr) 0) (.slice none 0 0)).toList (by rfl) (by rfl) (news_blk HNB.out) (one_mem (one_stp _ _ _ _ _ _)) (by decide) (by unfold maxLen; have := HLEN.out; omega) (by have := HLEN.out; omega) HS.out.base.bel.size (wz.heap.size + 1) (by simp) ?_; intro g cap2 w9 hown9 hgrow9 hat9 hlt9)
                  )
                replace HS := Lib.hid (HS.out.push (st := ⟨4, 0, max (s.ref - pr) 0, []⟩) HY.out hown9 hgrow9)
                clear hown9 hgrow9 hat9 hlt9 HNB HY HB6 HX
                go_roundw
                case rel => exact ⟨k + 1, _, turn (turn y), by omega, by go_num, HS.out, by simp [HL.out], by rw [← HF.out, HC.out]; simp⟩
                case measure => simp [intOf]; omega
      · have HC := Lib.hid (loop_order c kind y n k hlt h6)
        go_wp2_with
          (refine load_blk (by rfl) 34 _ (by rfl) w.heap.size (by rfl) _ _ HX.out.rw_.base.cfg _ Try.underlying34 rfl (by kernel_rfl) ?_)
        have hlw := HX.out.rw_.base.lt
        refine (RefOrder.order_ref c _ ta sc tc d (turn y) kind k _ (HIN.out _ HX.out.rw_.base.bel) (fun a ha => by have := HSA.out a ha; omega) HRT.out.rt (by omega) (by omega) HX.out.rw_.base.dice).mono ?_
        clear hlw
        rintro e w2 ⟨rfl, hq1, hq2⟩
        replace HX := Lib.hid (HX.out.call hq1 hq2)
        clear hq1 hq2
        have HCI := Lib.hid (cmd_in HRT.out (turn y) k)
        go_wp2_with fail
        refine (rof_any (orderCmd c (turn y) kind k) _ (by have := HCI.out; omega) (by have := HCI.out; omega) (by have := HCI.out; omega) (by have := HCI.out; omega)).mono ?_
        clear HCI
        have hle := HX.out.rw_.base.bel.size
        rintro e w3 h5
        obtain ⟨u, code, rfl, hby, hb5⟩ := of_step h5
        replace HX := Lib.hid (HX.out.below hb5)
        replace hby := bytes_mono hby hle
        obtain ⟨ua, un, uc, rfl⟩ := bytes_form hby
        clear h5 hb5 hle
        generalize ofS (orderCmd c (turn y) kind ↑k) = st at hby HC ⊢
        have HY := Lib.hid (bytes_cells (stepC st.k st.y st.v (.slice ua un uc)).toList 0 _ _ hby HX.out.res)
        clear hby
        go_upto_region 24 with (refine store_blk (by rfl) 123 _ _ (by rfl) wr.heap.size (by rfl) _ (stepC st.k st.y st.v (.slice ua un uc)) 123 HX.out.res (by rfl) rfl (by kernel_rfl) (one_stp _ _ _ _ _ _) ?_; replace HX := Lib.hid (HX.out.put (stepC st.k st.y st.v (.slice ua un uc)) rfl); generalize hwz : World.setCells w3 wr.heap.size 0 (stepC st.k st.y st.v (.slice ua un uc)).toList = wz at HX HY ⊢; clear hwz)
        replace HS := Lib.hid (HX.out.rw_.alloc (.cells (stepC st.k st.y st.v (.slice ua un uc)) 123))
        have HB6 := Lib.hid HX.out.res
        replace HY := Lib.hid (bytes_alloc HY.out (.cells (stepC st.k st.y st.v (.slice ua un uc)) 123))
        have HNB := Lib.hid (Blk.new wz (stepC st.k st.y st.v (.slice ua un uc)) 123 wz.heap.size rfl)
        unfold stepC at HB6
        go_wp2_with (first
          | (refine load_blk (by rfl) 123 _ (by rfl) wr.heap.size (by rfl) _ _ HB6.out _ Try.underlying123 rfl (by kernel_rfl) ?_)
          |
          (at_builtin; refine wpList_append_lies _ (by rfl) _ _ _ (by rfl) w.heap.size 123 i0 (.agg (stepC 0 0 0 (.slice none 0 0))) 4 48 Try.underlying37 hi0 hz0 hz1 hz2 (by rfl) (by decide) _ r.length (flat r) (by rfl) HS.out.base.row.1 ⟨wz.heap.size, 0, none⟩ 1 1 (stepC st.k st.y st.v (.slice ua un uc)).toList (by rfl) (by rfl) (news_blk HNB.out) (one_mem (one_stp _ _ _ _ _ _)) (by decide) (by unfold maxLen; have := HLEN.out; omega) (by have := HLEN.out; omega) HS.out.base.bel.size (wz.heap.size + 1) (by simp) ?_; intro g cap2 w9 hown9 hgrow9 hat9 hlt9)
          )
        replace HS := Lib.hid (HS.out.push (st := st) HY.out hown9 hgrow9)
        clear hown9 hgrow9 hat9 hlt9 HNB HY HB6 HX
        go_roundw
        case rel => exact ⟨k + 1, _, orderDice (turn y), by omega, by go_num, HS.out, by simp [HL.out], by rw [← HF.out, HC.out]; simp⟩
        case measure => simp [intOf]; omega
    · obtain rfl : k = n := by omega
      have HR := Lib.hid (show r.map (·.1) = stepsS c x kind k by rw [← HF.out, Nat.sub_self]; simp [loopS])
      go_wp2_with fail
      go_ret2
      exact ⟨_, rfl, by rw [← HR.out]; exact HS.out.base.row.row, HS.out.base.bel⟩
end Go.Proofs.Ytogjgpiddjmpiaa.Steps
