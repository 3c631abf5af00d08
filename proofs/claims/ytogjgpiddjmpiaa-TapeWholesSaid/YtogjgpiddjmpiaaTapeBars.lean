/- tape.Bars. -/
import Derived.Test.YtogjgpiddjmpiaaTapeKeep
import Derived.Deep.AppendLies
namespace Go.Proofs.Ytogjgpiddjmpiaa.Tape
set_option linter.unusedVariables false
open Go.RowKit Go.Shelf Go.Proofs.Ytogjgpiddjmpiaa.Kit Go.Proofs.Ytogjgpiddjmpiaa.Blk Go.Proofs.Ytogjgpiddjmpiaa.Msgs Go.Proofs.Ytogjgpiddjmpiaa.Iter
attribute [local go_sem] Oper.semAt_some wide_fn

theorem infoBar : (Try.prog.info? 53).map (fun i => (i.zero, i.size, i.bytes)) = some (some (.agg Bar.zero.cells), 8, 64) := by kernel_rfl
/-- What Bars returns. -/
def BarsIs (wd : Int) (l : List Msg) (w : World) (e : Ending) (w' : World) : Prop :=
  ∃ v : Value, e = .returned (.tuple #[v, .int .i64 (if wd < 1 then 9 else 0)]) ∧ w'.ownsRow w.heap.size 53 8 v (if wd < 1 then [] else barsF wd l).length (rowsOf (if wd < 1 then [] else barsF wd l)) ∧ Below w.heap.size w w'

theorem results_cell_tmp {P : Program} {fn : Func} {p u : Tmp} {ty T : TypeId} {tmps : Array Value} {w : World} {B : Nat} {v : Value} (hb : Boxed w B T v) (h : fn.results = #[.cell p ty, .tmp u]) (hp : tmps.getD p undef = .pointer (some ⟨B, 0, none⟩))
    {e : TypeId} (hu : P.underlying ty = some (.slice e)) : (results fn tmps).run P w = .ok (.tuple #[v, tmps.getD u undef]) w := by
  have hc : w.cell? ⟨B, 0, none⟩ = some v := hb.cell
  have hp' : tmps[p]?.getD undef = .pointer (some ⟨B, 0, none⟩) := by simpa using hp
  have hag := run_isAgg_plain hu rfl w
  simp [results, h, hp', asAddr, loadVar, hag, hc, go_sem]
/-- The blocks that a round leaves as they were. -/
def SB (N K b : Nat) : Prop := b < N ∨ b = K + 1 ∨ b = K + 1 + 1
theorem kz_own {S : Nat → Prop} {Z : World} {β : Type} {B : Nat} (hZ : B ≤ Z.heap.size) (hS : ∀ b, S b → b < B) : OwnFrom B (fun (_ : β) W => KZ S Z W) := by
  intro s W W' row hs hg hr
  refine ⟨fun b hb => ?_, Nat.le_trans hs.2 hg.size⟩
  rw [hg.block b (Nat.lt_of_lt_of_le (hS b hb) (Nat.le_trans hZ hs.2)) (fun e => by have := (hr b e.symm).1; have := hS b hb; omega)]
  exact hs.1 b hb
def mkZero : Array Value := #[.int .i64 0, .int .i64 0, .int .i64 0, .int .i64 0, .int .i64 0, .int .i64 0, .int .i64 0, .int .i64 0, .int .u64 0, .int .u64 0]
theorem one_mkz : mkZero.all (·.oneCell') = true := by simp [mkZero, Value.oneCell']
theorem mk_zero : mkZero = mk Bar.zero 0 := rfl

set_option maxRecDepth 100000 in
set_option maxHeartbeats 4000000 in
theorem bars_any (a : Option Addr) (cap : Nat) (ms : List Msg) (sym wd : Int) (w : World) (hm : MsgRow w a ms) (hl : ms.length ≤ 1000) (hfit : ∀ m ∈ ms, m.tick ≤ 9223372036854775807) :
    Calls Try.prog 24 #[.slice a ms.length cap, .int .i64 sym, .int .i64 wd] w fun e w' => BarsIs wd ((cnt sym ms).map Subtype.val) w e w' := by
  refine of_wide (n := 9) ?_
  refine callsIn_of_wp_marks Try.func24 rfl trivial ?_ rfl
  simp only [Try.ntmps24, List.size_toArray, List.length_cons, List.length_nil, Nat.reduceAdd, Nat.reduceSub, Array.replicate_succ, Array.replicate_zero, List.push_toArray, List.append_toArray, List.nil_append, List.cons_append]
  have hB1 := Blk.new w #[.int .i64 wd] 2 w.heap.size rfl
  have hO1 := Blk.new (w.alloc (.cells #[.int .i64 wd] 2)) #[.slice none 0 0] 46 (w.heap.size + 1) (by simp)
  have hL1 : Below w.heap.size w ((w.alloc (.cells #[.int .i64 wd] 2)).alloc (.cells #[.slice none 0 0] 46)) := ((Below.refl _ _).alloc (Nat.le_refl _) _).alloc (by simp) _
  have HO := Lib.hid hO1
  have HL := Lib.hid hL1
  have HBw := Lib.hid (hB1.old (.cells #[.slice none 0 0] 46))
  have HM := Lib.hid hm
  have HMB := Lib.hid (msg_old hm)
  clear hB1 hO1 hL1 hm
  gi_wp2
  refine scopeW ?_
  by_cases hw : wd < 1
  · have HW := Lib.hid hw
    gi_wp2
    rw [Exit.noGoto_ret]
    gi_wp2
    refine ⟨_, results_cell_tmp HO.out rfl rfl Try.underlying46, ?_⟩
    refine ⟨_, by rw [if_pos HW.out]; rfl, ?_, HL.out⟩
    rw [if_pos HW.out]
    exact World.ownsRow_nil _ _ _ _
  · have hw1 : 1 ≤ wd := by omega
    gi_wp2_with fail
    refine wpIn_label ?_
    gi_wp2_with fail
    have hWs : ((w.alloc (.cells #[.int .i64 wd] 2)).alloc (.cells #[.slice none 0 0] 46)).heap.size = w.heap.size + 1 + 1 := by simp
    generalize (w.alloc (.cells #[.int .i64 wd] 2)).alloc (.cells #[.slice none 0 0] 46) = W at HO HL HBw hWs ⊢
    generalize hKK : w.heap.size + 1 + 1 = K at hWs ⊢
    generalize hOO : w.heap.size + 1 = O at HO hKK ⊢
    have HK := Lib.hid (Blk.new W mkZero 146 K hWs)
    replace HO := Lib.hid (HO.out.old (.cells mkZero 146))
    replace HBw := Lib.hid (HBw.out.old (.cells mkZero 146))
    replace HL := Lib.hid (HL.out.alloc (by omega) (.cells mkZero 146))
    have hX : (W.alloc (.cells mkZero 146)).heap.size = K + 1 := by rw [World.size_alloc, hWs]
    have HKK := Lib.hid hKK
    have HOO := Lib.hid hOO
    have HX := Lib.hid hX
    clear hKK hOO hWs
    change CallsIn _ _ _ _ _ (W.alloc (.cells mkZero 146)) _
    generalize W.alloc (.cells mkZero 146) = X at HO HBw HL HK HX hX ⊢
    refine (to_wide (counts_any _ a ms.length cap sym X rfl (K + 1) hX)).mono ?_
    clear hX
    rintro e w2 ⟨rfl, rfl⟩
    gi_wp2_with fail
    have HXs := Lib.hid (Blk.new X #[.slice a ms.length cap] 45 (K + 1) HX.out)
    replace HXs := Lib.hid (HXs.out.old (.cells #[.int .i64 sym] 3))
    have HXy := Lib.hid (Blk.new (X.alloc (.cells #[.slice a ms.length cap] 45)) #[.int .i64 sym] 3 (K + 1 + 1) (by rw [World.size_alloc, HX.out]))
    have HZs := Lib.hid (show ((X.alloc (.cells #[.slice a ms.length cap] 45)).alloc (.cells #[.int .i64 sym] 3)).heap.size = K + 3 by rw [World.size_alloc, World.size_alloc, HX.out])
    have hbz : Below X.heap.size X ((X.alloc (.cells #[.slice a ms.length cap] 45)).alloc (.cells #[.int .i64 sym] 3)) := ((Below.refl _ _).alloc (Nat.le_refl _) _).alloc (by simp) _
    replace HO := Lib.hid (HO.out.below hbz HO.out.lt)
    replace HBw := Lib.hid (HBw.out.below hbz HBw.out.lt)
    replace HK := Lib.hid (HK.out.below hbz HK.out.lt)
    replace HL := Lib.hid (HL.out.trans (hbz.mono HL.out.size))
    clear hbz
    generalize (X.alloc (.cells #[.slice a ms.length cap] 45)).alloc (.cells #[.int .i64 sym] 3) = Z at HO HBw HK HL HXs HXy HZs ⊢
    clear HX
    replace HM := Lib.hid (HM.out.all HL.out)
    refine wpIn_rangeFunc_ownH (w0 := Z) rfl (by decide) (gf := 113) (lb := #[.pointer (some ⟨K + 1, 0, none⟩), .pointer (some ⟨K + 1 + 1, 0, none⟩)]) rfl trivial (enters_of Try.func113 (by kernel_rfl) rfl)
      (counts_stops 8 (by decide) sym a cap ms hl hfit (K + 1) (K + 1 + 1) (SB w.heap.size K) (fun b off ha hn => Or.inl (HMB.out b off ha hn)) (by simp [SB]) Z (fun b hb => by have := HZs.out; have := HKK.out; have := HOO.out; unfold SB at hb; omega) HXs.out HXy.out HM.out) kz_t (kz_b (fun b hb => by have := HZs.out; have := HKK.out; have := HOO.out; unfold SB at hb; omega)) (Below.refl _ _) (fun _ => rfl)
      (fun (pre : List TM) W => Kept w.heap.size O K w.heap.size wd w (foldB wd (pre.map Subtype.val)) W ∧ KZ (SB w.heap.size K) Z W)
      (fun _ _ _ => False)
      (OwnFrom.and (kept_own _ HL.out.size) (kz_own (Nat.le_refl _) (fun b hb => by have := HZs.out; have := HKK.out; have := HOO.out; unfold SB at hb; omega)))
      (fun c s W W' row hs _ _ => hs)
      ⟨⟨⟨_, HO.out, World.ownsRow_nil _ _ _ _, trivial⟩, (by have h := HK.out; rw [mk_zero] at h; exact h), HBw.out, HL.out, Nat.le_refl _⟩, kz_refl _ _⟩
      (fun x a' W => ∃ Bx, Z.heap.size ≤ Bx ∧ Blk W Bx x.1.cells 66 ∧ a' = { tmps := #[.slice a ms.length cap, .int .i64 sym, .int .i64 wd, undef, undef, .pointer (some ⟨w.heap.size, 0, none⟩), .pointer (some ⟨O, 0, none⟩), .int .i64 0, .pointer (some ⟨K, 0, none⟩), .pointer (some ⟨Bx, 0, none⟩), undef, .int .i64 wd, .bool false,
        .slice a ms.length cap, .int .i64 sym, .func (.func 113) #[] #[.pointer (some ⟨K + 1, 0, none⟩), .pointer (some ⟨K + 1 + 1, 0, none⟩)], .agg x.1.cells, undef, undef, undef, undef, undef, undef, undef, undef, undef, undef, undef, undef, undef, undef, undef, undef, undef, undef, undef, undef, undef, undef, undef, undef, undef, undef, undef, undef, undef, undef, undef, undef, undef, undef, undef, undef, undef], defers := [] })
      (fun x a' s W W' row hs hg hr => by obtain ⟨Bx, h1, h2, h3⟩ := hs; exact ⟨Bx, h1, (grownBy_keeps_cells hg (fun r e => (hr r e).2) h2 rfl).trans h2, h3⟩) ?assign ?body ?done ?stop
    case assign =>
      rintro l pre x W K' ⟨hi, hz⟩ hK'
      have HZ := Lib.hid (Blk.new W msgZero 66 W.heap.size rfl)
      have HFIN := Lib.hid (hK' _ _ ((KeepsOthers.alloc W (.cells x.1.cells 66)).from _) (kz_below ((Below.refl W.heap.size W).alloc (Nat.le_refl _) (.cells x.1.cells 66)) (fun b hb => by have := HZs.out; have := HKK.out; have := HOO.out; have := hz.2; unfold SB at hb; omega))
        ⟨hi.below ((Below.refl W.heap.size W).alloc (Nat.le_refl _) (.cells x.1.cells 66)), kz_t hz (kz_below ((Below.refl W.heap.size W).alloc (Nat.le_refl _) (.cells x.1.cells 66)) (fun b hb => by have := HZs.out; have := HKK.out; have := HOO.out; have := hz.2; unfold SB at hb; omega))⟩
        ⟨W.heap.size, hz.2, Blk.new W x.1.cells 66 W.heap.size rfl, rfl⟩)
      clear hK' hi hz
      gi_wp2_with (refine storeR_blk l (by rfl) 66 _ _ (by rfl) W.heap.size (by rfl) msgZero x.1.cells 66 HZ.out (by rfl) (by rfl) (by kernel_rfl) (one_msg _) ?_; change wpListIn _ _ _ _ _ _ _ (World.setCells (W.alloc (.cells msgZero 66)) W.heap.size 0 x.1.cells.toList); rw [alloc_setCells W msgZero x.1.cells 66 rfl W.heap.size rfl])
      exact HFIN.out
    case body =>
      rintro l pre x a' W hWl ⟨r, hr⟩ ⟨hkept, hkz⟩ ⟨Bx, hBx, bX, rfl⟩ hlen
      obtain ⟨m, hg⟩ := x
      have hn : pre.length ≤ 999 := by have := cnt_len sym ms; omega
      have hsnd := (sound_fold wd (pre.map Subtype.val) (fun m hm => by obtain ⟨y, _, rfl⟩ := List.mem_map.1 hm; exact y.2))
      rw [List.length_map] at hsnd
      have HST := Lib.hid (show foldB wd ((pre ++ [(⟨m, hg⟩ : TM)]).map Subtype.val) = stepB wd (foldB wd (pre.map Subtype.val)) m by rw [List.map_append]; exact foldB_snoc wd _ m)
      generalize foldB wd (pre.map Subtype.val) = s at hkept hsnd HST
      obtain ⟨out, b, x⟩ := s
      obtain ⟨hsnd, hout⟩ := hsnd
      dsimp only at hsnd hout
      have HSND := Lib.hid hsnd
      have hsm := sound_small hsnd (by omega)
      have ht0 := hsnd.t0
      have hv0 := hsnd.v0
      obtain ⟨ht1, hv1, hx1⟩ := hsm
      have e0 : ¬ wd = 0 := by omega
      have e1 : IntKind.i64.wrap (m.tick.tdiv wd) = m.tick / wd := by
        rw [Int.tdiv_eq_ediv_of_nonneg hg.t1, IntWalk.i64_in _ ⟨by have := Int.ediv_nonneg hg.t1 (show 0 ≤ wd by omega); omega, by have := Int.ediv_le_self wd hg.t1; have := hg.t2; omega⟩]
      have e2 : IntKind.i64.wrap (m.tick / wd * wd) = m.tick / wd * wd :=
        IntWalk.i64_in _ ⟨by have := Fix.div_mul_nonneg m.tick wd hg.t1 hw1; omega, by have := Fix.div_mul_le m.tick wd hw1; have := hg.t2; omega⟩
      have HF := Lib.hid (show stepB wd ⟨out, b, x⟩ m = if b.trd = 0 ∨ b.frm = m.tick / wd * wd then ⟨out, addF b (m.tick / wd * wd) m, x + wo m⟩ else ⟨out ++ [doneF b x], addF Bar.zero (m.tick / wd * wd) m, wo m⟩ from rfl)
      generalize m.tick / wd = q at e1 e2 HF
      have HKP := Lib.hid hkept
      have HKZ := Lib.hid hkz
      have HBX := Lib.hid bX
      have HR := Lib.hid hr
      have c3 : W.cell? ⟨Bx, 3, none⟩ = some (.int .i64 m.tick) := bX.cell 3 rfl
      have cw : W.cell? ⟨w.heap.size, 0, none⟩ = some (.int .i64 wd) := hkept.width.cell 0 rfl
      clear hkept hkz bX hr hlen hsnd
      gi_wp2_with fail
      refine stillR l (by kernel_rfl) (by kernel_rfl) (by kernel_rfl) ?_
      repeat still_step
      refine wpStill_nil ?_
      generalize hff : q * wd = f at HF
      have HFF := Lib.hid hff
      clear hff e1 e2 c3 cw
      replace HKP := Lib.hid HKP.out.drew
      replace HKZ := Lib.hid (kz_t HKZ.out (kz_below (Below.refl _ W).drew (fun b hb => Nat.lt_of_lt_of_le (by have := HZs.out; have := HKK.out; have := HOO.out; unfold SB at hb; omega) HKZ.out.2)))
      have HKF := Lib.hid ((KeepsOthers.drew W).from Z.heap.size)
      replace HBX := Lib.hid HBX.out.drew
      have HWK := Lib.hid (show KZ (SB w.heap.size K) W W.drew from kz_below (Below.refl _ W).drew (fun b hb => Nat.lt_of_lt_of_le (by have := HZs.out; have := HKK.out; have := HOO.out; unfold SB at hb; omega) (show Z.heap.size ≤ W.heap.size from HKZ.out.2)))
      generalize W.drew = W1 at HKP HKZ HBX HKF HWK ⊢
      have k6 : W1.cell? ⟨K, 6, none⟩ = some (.int .i64 b.trd) := HKP.out.maker.cell 6 rfl
      have k0 : W1.cell? ⟨K, 0, none⟩ = some (.int .i64 b.frm) := HKP.out.maker.cell 0 rfl
      by_cases hz : b.trd = 0
      · have b1 : (b.trd == 0) = true := by simpa using hz
        have HFE := Lib.hid (HF.out.trans (if_pos (Or.inl hz)))
        clear hz
        have HADD := Lib.hid (fun w (h : Blk w K (mk b x) 146) => add_any K b x f m w h hg ht0 ht1 hv0 hv1 hx1)
        gi_wp2_with (refine loadR_blk l (by rfl) 66 _ (by rfl) Bx (by rfl) m.cells 66 HBX.out _ Try.underlying66 rfl (by kernel_rfl) ?_)
        refine (CallsIn.inRound l (to_wide (HADD.out _ HKP.out.maker))).mono ?_
        rintro e w2 ⟨rfl, hk2, hc2⟩
        have HEND := Lib.hid (kept_chg HKP.out _ _ hk2 hc2 (by have := HKK.out; omega) (by have := HKK.out; have := HOO.out; omega) (by have := HKK.out; have := HOO.out; omega))
        have HZ2 := Lib.hid (kz_chg (S := SB w.heap.size K) hc2 (fun b hb => ⟨Nat.lt_of_lt_of_le (by have := HZs.out; have := HKK.out; have := HOO.out; unfold SB at hb; omega) HKZ.out.2, by have := HKK.out; have := HOO.out; unfold SB at hb; omega⟩))
        have HF2 := Lib.hid (kf_chg (B := Z.heap.size) hc2 (by have := HZs.out; omega))
        clear hk2 hc2
        gi_wp2
        exact ⟨HKF.out.trans HF2.out, kz_t HWK.out HZ2.out, by rw [HST.out, HFE.out]; exact HEND.out, kz_t HKZ.out HZ2.out⟩
      · by_cases hq : b.frm = f
        · have b1 : (b.trd == 0) = false := by simpa using hz
          have b2 : (b.frm == f) = true := by simpa using hq
          have HFE := Lib.hid (HF.out.trans (if_pos (Or.inr hq)))
          clear hz hq
          have HADD := Lib.hid (fun w (h : Blk w K (mk b x) 146) => add_any K b x f m w h hg ht0 ht1 hv0 hv1 hx1)
          gi_wp2_with (refine loadR_blk l (by rfl) 66 _ (by rfl) Bx (by rfl) m.cells 66 HBX.out _ Try.underlying66 rfl (by kernel_rfl) ?_)
          refine (CallsIn.inRound l (to_wide (HADD.out _ HKP.out.maker))).mono ?_
          rintro e w2 ⟨rfl, hk2, hc2⟩
          have HEND := Lib.hid (kept_chg HKP.out _ _ hk2 hc2 (by have := HKK.out; omega) (by have := HKK.out; have := HOO.out; omega) (by have := HKK.out; have := HOO.out; omega))
          have HZ2 := Lib.hid (kz_chg (S := SB w.heap.size K) hc2 (fun b hb => ⟨Nat.lt_of_lt_of_le (by have := HZs.out; have := HKK.out; have := HOO.out; unfold SB at hb; omega) HKZ.out.2, by have := HKK.out; have := HOO.out; unfold SB at hb; omega⟩))
          have HF2 := Lib.hid (kf_chg (B := Z.heap.size) hc2 (by have := HZs.out; omega))
          clear hk2 hc2
          gi_wp2
          exact ⟨HKF.out.trans HF2.out, kz_t HWK.out HZ2.out, by rw [HST.out, HFE.out]; exact HEND.out, kz_t HKZ.out HZ2.out⟩
        · have b1 : (b.trd == 0) = false := by simpa using hz
          have b2 : (b.frm == f) = false := by simpa using hq
          have HFE := Lib.hid (HF.out.trans (if_neg (fun h => by rcases h with h | h; exact hz h; exact hq h)))
          obtain ⟨v, hv, hrow, -⟩ := HKP.out.out
          have HV := Lib.hid hv
          have HROW := Lib.hid hrow
          have hme := sound_mean HSND.out hz (by omega)
          have HDONE := Lib.hid (show ∀ w, Blk w K (mk b x) 146 → Calls Try.prog 73 #[.pointer (some ⟨K, 0, none⟩)] w fun e w' => e = .returned (.agg (doneF b x).cells) ∧ Blk w' K (mk (doneF b x) x) 146 ∧ Chg w.heap.size K w w' from
            fun w h => done_any K b x b.vol.toNat w h hme.1 hme.2.1 hme.2.2.1 hme.2.2.2.1 hme.2.2.2.2)
          obtain ⟨i0, hi0, hz0, hz1, hz2⟩ := info_parts infoBar
          clear hv hrow hme hz hq
          generalize doneF b x = d at HDONE HFE
          gi_wp2_with fail
          refine heldR l (S := fun _ => True) (by kernel_rfl) (by kernel_rfl) trivial (fun hHeld => ?_)
          clear k6 k0
          replace HKP := Lib.hid HKP.out.drew
          replace HBX := Lib.hid HBX.out.drew
          replace HV := Lib.hid (show Boxed W1.drew O 46 v from HV.out)
          replace HROW := Lib.hid (show W1.drew.ownsRow w.heap.size 53 8 v out.length (rowsOf out) from HROW.out)
          have HW12 := Lib.hid (show KZ (SB w.heap.size K) W1 W1.drew from kz_below (Below.refl _ W1).drew (fun b hb => Nat.lt_of_lt_of_le (by have := HZs.out; have := HKK.out; have := HOO.out; unfold SB at hb; omega) (show Z.heap.size ≤ W1.heap.size from HKZ.out.2)))
          replace HKF := Lib.hid (HKF.out.trans ((KeepsOthers.drew W1).from Z.heap.size))
          replace HWK := Lib.hid (kz_t HWK.out HW12.out)
          replace HKZ := Lib.hid (kz_t HKZ.out HW12.out)
          clear HW12
          generalize W1.drew = W2 at HKP HKZ HBX HKF HWK HV HROW ⊢
          refine wpAnyH_ready (rs := [0, 1]) (by kernel_rfl) (by simp) ?_
          refine AllReadyH.cons (o := ⟨some 37, _, _, _, _, _⟩) rfl (fun KK hK => ?_) (AllReadyH.cons (o := ⟨some 38, _, _, _, _, _⟩) rfl (fun KK hK => ?_) AllReadyH.nil)
          ·
            have c0 : W2.cell? ⟨O, 0, none⟩ = some v := HV.out.cell
            go_simp
            refine hK.out _ _ trivial (fun hHeld => ?_)
            clear hK; try clear KK
            try simp only [Act.put, List.setIfInBounds_toArray, List.set_cons_zero, List.set_cons_succ]
            clear c0
            refine wpAnyH_ready (rs := [1]) (by kernel_rfl) (by simp) ?_
            refine AllReadyH.cons (o := ⟨some 38, _, _, _, _, _⟩) rfl (fun KK hK => ?_) AllReadyH.nil
            go_simp
            refine (HDONE.out _ HKP.out.maker).mono ?_
            rintro e W3 ⟨rfl, hk3, hc3⟩
            dsimp only [Bar.cells]
            have HW23 := Lib.hid (kz_chg (S := SB w.heap.size K) hc3 (fun b hb => ⟨Nat.lt_of_lt_of_le (by have := HZs.out; have := HKK.out; have := HOO.out; unfold SB at hb; omega) HKZ.out.2, by have := HKK.out; have := HOO.out; unfold SB at hb; omega⟩))
            replace HV := Lib.hid (HV.out.kept (chg_grown hc3) (by have := HKK.out; simp; omega))
            replace HROW := Lib.hid (HROW.out.kept (chg_grown hc3) (.inr (fun e => blk_not_row HKP.out.maker (by decide) HROW.out e.symm)))
            replace HKP := Lib.hid (kept_chg HKP.out d x hk3 hc3 (by have := HKK.out; omega) (by have := HKK.out; have := HOO.out; omega) (by have := HKK.out; have := HOO.out; omega))
            replace HBX := Lib.hid (hc3.blk HBX.out.lt (by have := HZs.out; omega) HBX.out)
            replace HKF := Lib.hid (HKF.out.trans (kf_chg (B := Z.heap.size) hc3 (by have := HZs.out; omega)))
            replace HWK := Lib.hid (kz_t HWK.out HW23.out)
            replace HKZ := Lib.hid (kz_t HKZ.out HW23.out)
            clear HW23 hk3 hc3 hHeld
            go_wp2_with fail
            refine hK.out _ _ trivial (fun hHeld => ?_)
            clear hK; try clear KK
            try simp only [Act.put, List.setIfInBounds_toArray, List.set_cons_zero, List.set_cons_succ]
            refine wpAnyH_ready (rs := [2]) (by kernel_rfl) (by simp) ?_
            refine AllReadyH.cons (o := ⟨some 39, _, _, _, _, _⟩) rfl (fun KK hK => ?_) AllReadyH.nil
            go_simp
            change KK _ (W3.alloc (.cells d.cells 53))
            have HV3 := HV
            replace HV := Lib.hid (HV.out.alloc (.cells d.cells 53))
            have HR4 := Lib.hid (HROW.out.alloc (.cells d.cells 53))
            have HNEW := Lib.hid (Blk.new W3 d.cells 53 W3.heap.size rfl)
            have HS4 := Lib.hid (show (W3.alloc (.cells d.cells 53)).heap.size = W3.heap.size + 1 by simp)
            generalize hW4 : W3.alloc (.cells d.cells 53) = W4 at HV HR4 HNEW HS4 ⊢
            have HW4 := Lib.hid hW4
            clear hW4
            refine hK.out _ _ trivial (fun hHeld => ?_)
            clear hK; try clear KK
            try simp only [Act.put, List.setIfInBounds_toArray, List.set_cons_zero, List.set_cons_succ]
            refine wpAnyH_ready (rs := [3]) (by kernel_rfl) (by simp) ?_
            refine AllReadyH.cons (o := ⟨some 40, _, _, _, _, _⟩) rfl (fun KK hK => ?_) AllReadyH.nil
            refine step_append_lies _ (by rfl) _ _ _ (by rfl) w.heap.size 53 i0 (.agg Bar.zero.cells) 8 64 Try.underlying46 hi0 hz0 hz1 hz2 (by rfl) (by decide) v out.length (rowsOf out) (by rfl) HR4.out ⟨W3.heap.size, 0, none⟩ 1 1 d.cells.toList (by rfl) (by rfl) (news_blk HNEW.out) (one_mem (one_bar d)) (by decide) (by unfold maxLen; omega) (by omega) (by have := HS4.out; have := HKP.out.le; omega) (W3.heap.size + 1) HS4.out ?_
            intro g cap2 w5 hown5 hgrow5 hat5 hlt5
            clear hat5 hlt5
            have HV5 := Lib.hid (HV.out.kept hgrow5 (HV.out.not_row (by decide) HR4.out))
            rw [← HW4.out] at hgrow5
            have HKP6 := Lib.hid (HKP.out.push (bs := out ++ [d]) HV3.out HROW.out (by have := HKK.out; omega) (by have := HOO.out; omega) (by have := HOO.out; omega) (by rw [rowsOf_app, List.length_append]; exact hown5) hgrow5)
            have HKO6 := Lib.hid (push_keeps HV3.out HROW.out HKP.out.le (by have := HOO.out; omega) hown5 hgrow5)
            have HKZ6 := Lib.hid (kz_push (O := O) (v' := .slice (some ⟨g, 0, none⟩) (out.length + 1) cap2) (S := SB w.heap.size K) HROW.out hgrow5 (fun b hb => ⟨Nat.lt_of_lt_of_le (by have := HZs.out; have := HKK.out; have := HOO.out; unfold SB at hb; omega) HKZ.out.2, by have := HKK.out; have := HOO.out; unfold SB at hb; omega, by
              rcases hb with hb | rfl | rfl
              · exact .inl hb
              · exact .inr ⟨_, _, ks_blk HXs.out HKZ.out.1 (.inr (.inl rfl)), by decide⟩
              · exact .inr ⟨_, _, ks_blk HXy.out HKZ.out.1 (.inr (.inr rfl)), by decide⟩⟩))
            have HBX6 := Lib.hid (((blk_grown (HBX.out.old (.cells d.cells 53)) hgrow5 (blk_not_row HBX.out (by decide) HROW.out)).apart ⟨O, 0, none⟩ (.slice (some ⟨g, 0, none⟩) (out.length + 1) cap2) (by show O ≠ Bx; have := HZs.out; have := HKK.out; omega)))
            have c0 : w5.cell? ⟨O, 0, none⟩ = some v := HV5.out.cell
            have f0 : w5.frozen? ⟨O, 0, none⟩ = false := HV5.out.frozen
            clear hown5 hgrow5
            refine hK.out _ _ trivial (fun hHeld => ?_)
            clear hK; try clear KK
            try simp only [Act.put, List.setIfInBounds_toArray, List.set_cons_zero, List.set_cons_succ]
            refine wpAnyH_ready (rs := [4]) (by kernel_rfl) (by simp) ?_
            refine AllReadyH.cons (o := ⟨none, _, _, _, _, _⟩) rfl (fun KK hK => ?_) AllReadyH.nil
            go_simp
            clear c0 f0 HV5
            change KK _ (World.setCell w5 ⟨O, 0, none⟩ (.slice (some ⟨g, 0, none⟩) (out.length + 1) cap2))
            generalize World.setCell w5 ⟨O, 0, none⟩ (.slice (some ⟨g, 0, none⟩) (out.length + 1) cap2) = W6 at HKP6 HKO6 HKZ6 HBX6 ⊢
            refine hK.out _ _ trivial (fun hHeld => ?_)
            clear hK; try clear KK
            refine wpAnyH_done (by kernel_rfl) ?_ _
            unfold onlyNormal
            replace HKF := Lib.hid (HKF.out.trans (HKO6.out.from Z.heap.size))
            replace HWK := Lib.hid (kz_t HWK.out HKZ6.out)
            replace HKZ := Lib.hid (kz_t HKZ.out HKZ6.out)
            clear HKO6 HKZ6 HKP HROW HV HV3 HR4 HNEW HS4 HW4 HDONE hHeld
            have HK7 := Lib.hid (HKP6.out.maker.setCells mkZero rfl)
            have HC7 := Lib.hid (Chg.setCells (B := K) mkZero.toList 0 _ (Chg.refl W6.heap.size K W6) (Or.inl rfl))
            have HBX7 := Lib.hid (Blk.apartAll (B := K) mkZero.toList 0 _ HBX6.out (by have := HZs.out; omega))
            have HADD := Lib.hid (fun w (h : Blk w K (mk Bar.zero 0) 146) => add_any K Bar.zero 0 f m w h hg (by decide) (by decide) (by decide) (by decide) (by decide))
            gi_wp2_with (first
              | (refine storeR_blk l (by rfl) 146 _ _ (by rfl) K (by rfl) (mk d x) mkZero 146 HKP6.out.maker (by rfl) (by rfl) (by kernel_rfl) one_mkz ?_; generalize World.setCells W6 K 0 mkZero.toList = W7 at HK7 HC7 HBX7 ⊢; have HBX8 := HBX7)
              | (refine loadR_blk l (by rfl) 66 _ (by rfl) Bx (by rfl) m.cells 66 HBX8.out _ Try.underlying66 rfl (by kernel_rfl) ?_))
            rw [mk_zero] at HK7
            refine (CallsIn.inRound l (to_wide (HADD.out _ HK7.out))).mono ?_
            rintro e w8 ⟨rfl, hk8, hc8⟩
            rw [Nat.zero_add] at hk8
            have hc := HC7.out.trans (hc8.mono HC7.out.size)
            have HEND := Lib.hid (kept_chg HKP6.out _ _ hk8 hc (by have := HKK.out; omega) (by have := HKK.out; have := HOO.out; omega) (by have := HKK.out; have := HOO.out; omega))
            have HZ2 := Lib.hid (kz_chg (S := SB w.heap.size K) hc (fun b hb => ⟨Nat.lt_of_lt_of_le (by have := HZs.out; have := HKK.out; have := HOO.out; unfold SB at hb; omega) HKZ.out.2, by have := HKK.out; have := HOO.out; unfold SB at hb; omega⟩))
            have HF2 := Lib.hid (kf_chg (B := Z.heap.size) hc (by have := HZs.out; omega))
            clear hk8 hc8 hc HC7
            gi_wp2
            exact ⟨HKF.out.trans HF2.out, kz_t HWK.out HZ2.out, by rw [HST.out, HFE.out]; exact HEND.out, kz_t HKZ.out HZ2.out⟩
          ·
            go_simp
            refine (HDONE.out _ HKP.out.maker).mono ?_
            rintro e W3 ⟨rfl, hk3, hc3⟩
            dsimp only [Bar.cells]
            have HW23 := Lib.hid (kz_chg (S := SB w.heap.size K) hc3 (fun b hb => ⟨Nat.lt_of_lt_of_le (by have := HZs.out; have := HKK.out; have := HOO.out; unfold SB at hb; omega) HKZ.out.2, by have := HKK.out; have := HOO.out; unfold SB at hb; omega⟩))
            replace HV := Lib.hid (HV.out.kept (chg_grown hc3) (by have := HKK.out; simp; omega))
            replace HROW := Lib.hid (HROW.out.kept (chg_grown hc3) (.inr (fun e => blk_not_row HKP.out.maker (by decide) HROW.out e.symm)))
            replace HKP := Lib.hid (kept_chg HKP.out d x hk3 hc3 (by have := HKK.out; omega) (by have := HKK.out; have := HOO.out; omega) (by have := HKK.out; have := HOO.out; omega))
            replace HBX := Lib.hid (hc3.blk HBX.out.lt (by have := HZs.out; omega) HBX.out)
            replace HKF := Lib.hid (HKF.out.trans (kf_chg (B := Z.heap.size) hc3 (by have := HZs.out; omega)))
            replace HWK := Lib.hid (kz_t HWK.out HW23.out)
            replace HKZ := Lib.hid (kz_t HKZ.out HW23.out)
            clear HW23 hk3 hc3 hHeld
            go_wp2_with fail
            refine hK.out _ _ trivial (fun hHeld => ?_)
            clear hK; try clear KK
            try simp only [Act.put, List.setIfInBounds_toArray, List.set_cons_zero, List.set_cons_succ]
            refine wpAnyH_ready (rs := [0, 2]) (by kernel_rfl) (by simp) ?_
            refine AllReadyH.cons (o := ⟨some 37, _, _, _, _, _⟩) rfl (fun KK hK => ?_) (AllReadyH.cons (o := ⟨some 39, _, _, _, _, _⟩) rfl (fun KK hK => ?_) AllReadyH.nil)
            ·
              have c0 : W3.cell? ⟨O, 0, none⟩ = some v := HV.out.cell
              go_simp
              refine hK.out _ _ trivial (fun hHeld => ?_)
              clear hK; try clear KK
              try simp only [Act.put, List.setIfInBounds_toArray, List.set_cons_zero, List.set_cons_succ]
              clear c0
              refine wpAnyH_ready (rs := [2]) (by kernel_rfl) (by simp) ?_
              refine AllReadyH.cons (o := ⟨some 39, _, _, _, _, _⟩) rfl (fun KK hK => ?_) AllReadyH.nil
              go_simp
              change KK _ (W3.alloc (.cells d.cells 53))
              have HV3 := HV
              replace HV := Lib.hid (HV.out.alloc (.cells d.cells 53))
              have HR4 := Lib.hid (HROW.out.alloc (.cells d.cells 53))
              have HNEW := Lib.hid (Blk.new W3 d.cells 53 W3.heap.size rfl)
              have HS4 := Lib.hid (show (W3.alloc (.cells d.cells 53)).heap.size = W3.heap.size + 1 by simp)
              generalize hW4 : W3.alloc (.cells d.cells 53) = W4 at HV HR4 HNEW HS4 ⊢
              have HW4 := Lib.hid hW4
              clear hW4
              refine hK.out _ _ trivial (fun hHeld => ?_)
              clear hK; try clear KK
              try simp only [Act.put, List.setIfInBounds_toArray, List.set_cons_zero, List.set_cons_succ]
              refine wpAnyH_ready (rs := [3]) (by kernel_rfl) (by simp) ?_
              refine AllReadyH.cons (o := ⟨some 40, _, _, _, _, _⟩) rfl (fun KK hK => ?_) AllReadyH.nil
              refine step_append_lies _ (by rfl) _ _ _ (by rfl) w.heap.size 53 i0 (.agg Bar.zero.cells) 8 64 Try.underlying46 hi0 hz0 hz1 hz2 (by rfl) (by decide) v out.length (rowsOf out) (by rfl) HR4.out ⟨W3.heap.size, 0, none⟩ 1 1 d.cells.toList (by rfl) (by rfl) (news_blk HNEW.out) (one_mem (one_bar d)) (by decide) (by unfold maxLen; omega) (by omega) (by have := HS4.out; have := HKP.out.le; omega) (W3.heap.size + 1) HS4.out ?_
              intro g cap2 w5 hown5 hgrow5 hat5 hlt5
              clear hat5 hlt5
              have HV5 := Lib.hid (HV.out.kept hgrow5 (HV.out.not_row (by decide) HR4.out))
              rw [← HW4.out] at hgrow5
              have HKP6 := Lib.hid (HKP.out.push (bs := out ++ [d]) HV3.out HROW.out (by have := HKK.out; omega) (by have := HOO.out; omega) (by have := HOO.out; omega) (by rw [rowsOf_app, List.length_append]; exact hown5) hgrow5)
              have HKO6 := Lib.hid (push_keeps HV3.out HROW.out HKP.out.le (by have := HOO.out; omega) hown5 hgrow5)
              have HKZ6 := Lib.hid (kz_push (O := O) (v' := .slice (some ⟨g, 0, none⟩) (out.length + 1) cap2) (S := SB w.heap.size K) HROW.out hgrow5 (fun b hb => ⟨Nat.lt_of_lt_of_le (by have := HZs.out; have := HKK.out; have := HOO.out; unfold SB at hb; omega) HKZ.out.2, by have := HKK.out; have := HOO.out; unfold SB at hb; omega, by
                rcases hb with hb | rfl | rfl
                · exact .inl hb
                · exact .inr ⟨_, _, ks_blk HXs.out HKZ.out.1 (.inr (.inl rfl)), by decide⟩
                · exact .inr ⟨_, _, ks_blk HXy.out HKZ.out.1 (.inr (.inr rfl)), by decide⟩⟩))
              have HBX6 := Lib.hid (((blk_grown (HBX.out.old (.cells d.cells 53)) hgrow5 (blk_not_row HBX.out (by decide) HROW.out)).apart ⟨O, 0, none⟩ (.slice (some ⟨g, 0, none⟩) (out.length + 1) cap2) (by show O ≠ Bx; have := HZs.out; have := HKK.out; omega)))
              have c0 : w5.cell? ⟨O, 0, none⟩ = some v := HV5.out.cell
              have f0 : w5.frozen? ⟨O, 0, none⟩ = false := HV5.out.frozen
              clear hown5 hgrow5
              refine hK.out _ _ trivial (fun hHeld => ?_)
              clear hK; try clear KK
              try simp only [Act.put, List.setIfInBounds_toArray, List.set_cons_zero, List.set_cons_succ]
              refine wpAnyH_ready (rs := [4]) (by kernel_rfl) (by simp) ?_
              refine AllReadyH.cons (o := ⟨none, _, _, _, _, _⟩) rfl (fun KK hK => ?_) AllReadyH.nil
              go_simp
              clear c0 f0 HV5
              change KK _ (World.setCell w5 ⟨O, 0, none⟩ (.slice (some ⟨g, 0, none⟩) (out.length + 1) cap2))
              generalize World.setCell w5 ⟨O, 0, none⟩ (.slice (some ⟨g, 0, none⟩) (out.length + 1) cap2) = W6 at HKP6 HKO6 HKZ6 HBX6 ⊢
              refine hK.out _ _ trivial (fun hHeld => ?_)
              clear hK; try clear KK
              refine wpAnyH_done (by kernel_rfl) ?_ _
              unfold onlyNormal
              replace HKF := Lib.hid (HKF.out.trans (HKO6.out.from Z.heap.size))
              replace HWK := Lib.hid (kz_t HWK.out HKZ6.out)
              replace HKZ := Lib.hid (kz_t HKZ.out HKZ6.out)
              clear HKO6 HKZ6 HKP HROW HV HV3 HR4 HNEW HS4 HW4 HDONE hHeld
              have HK7 := Lib.hid (HKP6.out.maker.setCells mkZero rfl)
              have HC7 := Lib.hid (Chg.setCells (B := K) mkZero.toList 0 _ (Chg.refl W6.heap.size K W6) (Or.inl rfl))
              have HBX7 := Lib.hid (Blk.apartAll (B := K) mkZero.toList 0 _ HBX6.out (by have := HZs.out; omega))
              have HADD := Lib.hid (fun w (h : Blk w K (mk Bar.zero 0) 146) => add_any K Bar.zero 0 f m w h hg (by decide) (by decide) (by decide) (by decide) (by decide))
              gi_wp2_with (first
                | (refine storeR_blk l (by rfl) 146 _ _ (by rfl) K (by rfl) (mk d x) mkZero 146 HKP6.out.maker (by rfl) (by rfl) (by kernel_rfl) one_mkz ?_; generalize World.setCells W6 K 0 mkZero.toList = W7 at HK7 HC7 HBX7 ⊢; have HBX8 := HBX7)
                | (refine loadR_blk l (by rfl) 66 _ (by rfl) Bx (by rfl) m.cells 66 HBX8.out _ Try.underlying66 rfl (by kernel_rfl) ?_))
              rw [mk_zero] at HK7
              refine (CallsIn.inRound l (to_wide (HADD.out _ HK7.out))).mono ?_
              rintro e w8 ⟨rfl, hk8, hc8⟩
              rw [Nat.zero_add] at hk8
              have hc := HC7.out.trans (hc8.mono HC7.out.size)
              have HEND := Lib.hid (kept_chg HKP6.out _ _ hk8 hc (by have := HKK.out; omega) (by have := HKK.out; have := HOO.out; omega) (by have := HKK.out; have := HOO.out; omega))
              have HZ2 := Lib.hid (kz_chg (S := SB w.heap.size K) hc (fun b hb => ⟨Nat.lt_of_lt_of_le (by have := HZs.out; have := HKK.out; have := HOO.out; unfold SB at hb; omega) HKZ.out.2, by have := HKK.out; have := HOO.out; unfold SB at hb; omega⟩))
              have HF2 := Lib.hid (kf_chg (B := Z.heap.size) hc (by have := HZs.out; omega))
              clear hk8 hc8 hc HC7
              gi_wp2
              exact ⟨HKF.out.trans HF2.out, kz_t HWK.out HZ2.out, by rw [HST.out, HFE.out]; exact HEND.out, kz_t HKZ.out HZ2.out⟩
            ·
              go_simp
              change KK _ (W3.alloc (.cells d.cells 53))
              have HV3 := HV
              replace HV := Lib.hid (HV.out.alloc (.cells d.cells 53))
              have HR4 := Lib.hid (HROW.out.alloc (.cells d.cells 53))
              have HNEW := Lib.hid (Blk.new W3 d.cells 53 W3.heap.size rfl)
              have HS4 := Lib.hid (show (W3.alloc (.cells d.cells 53)).heap.size = W3.heap.size + 1 by simp)
              generalize hW4 : W3.alloc (.cells d.cells 53) = W4 at HV HR4 HNEW HS4 ⊢
              have HW4 := Lib.hid hW4
              clear hW4
              refine hK.out _ _ trivial (fun hHeld => ?_)
              clear hK; try clear KK
              try simp only [Act.put, List.setIfInBounds_toArray, List.set_cons_zero, List.set_cons_succ]
              refine wpAnyH_ready (rs := [0]) (by kernel_rfl) (by simp) ?_
              refine AllReadyH.cons (o := ⟨some 37, _, _, _, _, _⟩) rfl (fun KK hK => ?_) AllReadyH.nil
              have c0 : W4.cell? ⟨O, 0, none⟩ = some v := HV.out.cell
              go_simp
              refine hK.out _ _ trivial (fun hHeld => ?_)
              clear hK; try clear KK
              try simp only [Act.put, List.setIfInBounds_toArray, List.set_cons_zero, List.set_cons_succ]
              clear c0
              refine wpAnyH_ready (rs := [3]) (by kernel_rfl) (by simp) ?_
              refine AllReadyH.cons (o := ⟨some 40, _, _, _, _, _⟩) rfl (fun KK hK => ?_) AllReadyH.nil
              refine step_append_lies _ (by rfl) _ _ _ (by rfl) w.heap.size 53 i0 (.agg Bar.zero.cells) 8 64 Try.underlying46 hi0 hz0 hz1 hz2 (by rfl) (by decide) v out.length (rowsOf out) (by rfl) HR4.out ⟨W3.heap.size, 0, none⟩ 1 1 d.cells.toList (by rfl) (by rfl) (news_blk HNEW.out) (one_mem (one_bar d)) (by decide) (by unfold maxLen; omega) (by omega) (by have := HS4.out; have := HKP.out.le; omega) (W3.heap.size + 1) HS4.out ?_
              intro g cap2 w5 hown5 hgrow5 hat5 hlt5
              clear hat5 hlt5
              have HV5 := Lib.hid (HV.out.kept hgrow5 (HV.out.not_row (by decide) HR4.out))
              rw [← HW4.out] at hgrow5
              have HKP6 := Lib.hid (HKP.out.push (bs := out ++ [d]) HV3.out HROW.out (by have := HKK.out; omega) (by have := HOO.out; omega) (by have := HOO.out; omega) (by rw [rowsOf_app, List.length_append]; exact hown5) hgrow5)
              have HKO6 := Lib.hid (push_keeps HV3.out HROW.out HKP.out.le (by have := HOO.out; omega) hown5 hgrow5)
              have HKZ6 := Lib.hid (kz_push (O := O) (v' := .slice (some ⟨g, 0, none⟩) (out.length + 1) cap2) (S := SB w.heap.size K) HROW.out hgrow5 (fun b hb => ⟨Nat.lt_of_lt_of_le (by have := HZs.out; have := HKK.out; have := HOO.out; unfold SB at hb; omega) HKZ.out.2, by have := HKK.out; have := HOO.out; unfold SB at hb; omega, by
                rcases hb with hb | rfl | rfl
                · exact .inl hb
                · exact .inr ⟨_, _, ks_blk HXs.out HKZ.out.1 (.inr (.inl rfl)), by decide⟩
                · exact .inr ⟨_, _, ks_blk HXy.out HKZ.out.1 (.inr (.inr rfl)), by decide⟩⟩))
              have HBX6 := Lib.hid (((blk_grown (HBX.out.old (.cells d.cells 53)) hgrow5 (blk_not_row HBX.out (by decide) HROW.out)).apart ⟨O, 0, none⟩ (.slice (some ⟨g, 0, none⟩) (out.length + 1) cap2) (by show O ≠ Bx; have := HZs.out; have := HKK.out; omega)))
              have c0 : w5.cell? ⟨O, 0, none⟩ = some v := HV5.out.cell
              have f0 : w5.frozen? ⟨O, 0, none⟩ = false := HV5.out.frozen
              clear hown5 hgrow5
              refine hK.out _ _ trivial (fun hHeld => ?_)
              clear hK; try clear KK
              try simp only [Act.put, List.setIfInBounds_toArray, List.set_cons_zero, List.set_cons_succ]
              refine wpAnyH_ready (rs := [4]) (by kernel_rfl) (by simp) ?_
              refine AllReadyH.cons (o := ⟨none, _, _, _, _, _⟩) rfl (fun KK hK => ?_) AllReadyH.nil
              go_simp
              clear c0 f0 HV5
              change KK _ (World.setCell w5 ⟨O, 0, none⟩ (.slice (some ⟨g, 0, none⟩) (out.length + 1) cap2))
              generalize World.setCell w5 ⟨O, 0, none⟩ (.slice (some ⟨g, 0, none⟩) (out.length + 1) cap2) = W6 at HKP6 HKO6 HKZ6 HBX6 ⊢
              refine hK.out _ _ trivial (fun hHeld => ?_)
              clear hK; try clear KK
              refine wpAnyH_done (by kernel_rfl) ?_ _
              unfold onlyNormal
              replace HKF := Lib.hid (HKF.out.trans (HKO6.out.from Z.heap.size))
              replace HWK := Lib.hid (kz_t HWK.out HKZ6.out)
              replace HKZ := Lib.hid (kz_t HKZ.out HKZ6.out)
              clear HKO6 HKZ6 HKP HROW HV HV3 HR4 HNEW HS4 HW4 HDONE hHeld
              have HK7 := Lib.hid (HKP6.out.maker.setCells mkZero rfl)
              have HC7 := Lib.hid (Chg.setCells (B := K) mkZero.toList 0 _ (Chg.refl W6.heap.size K W6) (Or.inl rfl))
              have HBX7 := Lib.hid (Blk.apartAll (B := K) mkZero.toList 0 _ HBX6.out (by have := HZs.out; omega))
              have HADD := Lib.hid (fun w (h : Blk w K (mk Bar.zero 0) 146) => add_any K Bar.zero 0 f m w h hg (by decide) (by decide) (by decide) (by decide) (by decide))
              gi_wp2_with (first
                | (refine storeR_blk l (by rfl) 146 _ _ (by rfl) K (by rfl) (mk d x) mkZero 146 HKP6.out.maker (by rfl) (by rfl) (by kernel_rfl) one_mkz ?_; generalize World.setCells W6 K 0 mkZero.toList = W7 at HK7 HC7 HBX7 ⊢; have HBX8 := HBX7)
                | (refine loadR_blk l (by rfl) 66 _ (by rfl) Bx (by rfl) m.cells 66 HBX8.out _ Try.underlying66 rfl (by kernel_rfl) ?_))
              rw [mk_zero] at HK7
              refine (CallsIn.inRound l (to_wide (HADD.out _ HK7.out))).mono ?_
              rintro e w8 ⟨rfl, hk8, hc8⟩
              rw [Nat.zero_add] at hk8
              have hc := HC7.out.trans (hc8.mono HC7.out.size)
              have HEND := Lib.hid (kept_chg HKP6.out _ _ hk8 hc (by have := HKK.out; omega) (by have := HKK.out; have := HOO.out; omega) (by have := HKK.out; have := HOO.out; omega))
              have HZ2 := Lib.hid (kz_chg (S := SB w.heap.size K) hc (fun b hb => ⟨Nat.lt_of_lt_of_le (by have := HZs.out; have := HKK.out; have := HOO.out; unfold SB at hb; omega) HKZ.out.2, by have := HKK.out; have := HOO.out; unfold SB at hb; omega⟩))
              have HF2 := Lib.hid (kf_chg (B := Z.heap.size) hc (by have := HZs.out; omega))
              clear hk8 hc8 hc HC7
              gi_wp2
              exact ⟨HKF.out.trans HF2.out, kz_t HWK.out HZ2.out, by rw [HST.out, HFE.out]; exact HEND.out, kz_t HKZ.out HZ2.out⟩
    case done =>
      rintro D xs W hD rfl ⟨hkept, hkz⟩ hKd
      have hsnd := (sound_fold wd ((cnt sym ms).map Subtype.val) (fun m hm => by obtain ⟨y, _, rfl⟩ := List.mem_map.1 hm; exact y.2))
      rw [List.length_map] at hsnd
      have hn : (cnt sym ms).length ≤ 1000 := by have := cnt_len sym ms; omega
      have HF := Lib.hid (show barsF wd ((cnt sym ms).map Subtype.val) = if 0 < (foldB wd ((cnt sym ms).map Subtype.val)).b.trd then (foldB wd ((cnt sym ms).map Subtype.val)).out ++ [doneF (foldB wd ((cnt sym ms).map Subtype.val)).b (foldB wd ((cnt sym ms).map Subtype.val)).x] else (foldB wd ((cnt sym ms).map Subtype.val)).out from rfl)
      generalize foldB wd ((cnt sym ms).map Subtype.val) = s at hkept hsnd HF
      obtain ⟨out, b, x⟩ := s
      obtain ⟨hsnd, hout⟩ := hsnd
      dsimp only at hsnd hout
      have HSND := Lib.hid hsnd
      have HKP := Lib.hid hkept
      have HKD := Lib.hid hKd
      have HD := Lib.hid hD
      have k6 : W.cell? ⟨K, 6, none⟩ = some (.int .i64 b.trd) := hkept.maker.cell 6 rfl
      have HWD := Lib.hid (show ¬ wd < 1 by omega)
      obtain ⟨v, hv, hrow, -⟩ := hkept.out
      have HV := Lib.hid hv
      have HROW := Lib.hid hrow
      have ht0 := hsnd.t0
      clear hkept hkz hKd hD hsnd hv hrow
      by_cases hp : 0 < b.trd
      · have HFE := Lib.hid (HF.out.trans (if_pos hp))
        have hme := sound_mean HSND.out (by omega) (by omega)
        have HDONE := Lib.hid (show ∀ w, Blk w K (mk b x) 146 → Calls Try.prog 73 #[.pointer (some ⟨K, 0, none⟩)] w fun e w' => e = .returned (.agg (doneF b x).cells) ∧ Blk w' K (mk (doneF b x) x) 146 ∧ Chg w.heap.size K w w' from
          fun w h => done_any K b x b.vol.toNat w h hme.1 hme.2.1 hme.2.2.1 hme.2.2.2.1 hme.2.2.2.2)
        obtain ⟨i0, hi0, hz0, hz1, hz2⟩ := info_parts infoBar
        clear hme
        generalize doneF b x = d at HDONE HFE
        have hDK : ¬ D = K := fun e => by
          have h1 := HKD.out
          rw [e, show W.heap[K]? = _ from HKP.out.maker] at h1
          cases h1
        have hDK2 := Lib.hid (show D < W.heap.size from (Array.getElem?_eq_some_iff.1 HKD.out).1)
        gi_wp2_with fail
        clear k6
        refine heldW trivial (S := fun _ => True) (by kernel_rfl) (by kernel_rfl) trivial (fun hHeld => ?_)
        replace HKP := Lib.hid HKP.out.drew
        replace HV := Lib.hid (show Boxed W.drew O 46 v from HV.out)
        replace HROW := Lib.hid (show W.drew.ownsRow w.heap.size 53 8 v out.length (rowsOf out) from HROW.out)
        replace HKD := Lib.hid (show W.drew.heap[D]? = some (.deferred (some [])) from HKD.out)
        replace hDK2 := Lib.hid (show D < W.drew.heap.size from hDK2.out)
        generalize W.drew = W2 at HKP HKD HV HROW hDK2 ⊢
        refine wpAnyH_ready (rs := [0, 1]) (by kernel_rfl) (by simp) ?_
        refine AllReadyH.cons (o := ⟨some 49, _, _, _, _, _⟩) rfl (fun KK hK => ?_) (AllReadyH.cons (o := ⟨some 50, _, _, _, _, _⟩) rfl (fun KK hK => ?_) AllReadyH.nil)
        ·
          have c0 : W2.cell? ⟨O, 0, none⟩ = some v := HV.out.cell
          go_simp
          refine hK.out _ _ trivial (fun hHeld => ?_)
          clear hK; try clear KK
          try simp only [Act.put, List.setIfInBounds_toArray, List.set_cons_zero, List.set_cons_succ]
          clear c0
          refine wpAnyH_ready (rs := [1]) (by kernel_rfl) (by simp) ?_
          refine AllReadyH.cons (o := ⟨some 50, _, _, _, _, _⟩) rfl (fun KK hK => ?_) AllReadyH.nil
          go_simp
          refine (HDONE.out _ HKP.out.maker).mono ?_
          rintro e W3 ⟨rfl, hk3, hc3⟩
          dsimp only [Bar.cells]
          replace HV := Lib.hid (HV.out.kept (chg_grown hc3) (by have := HKK.out; simp; omega))
          replace HROW := Lib.hid (HROW.out.kept (chg_grown hc3) (.inr (fun e => blk_not_row HKP.out.maker (by decide) HROW.out e.symm)))
          replace HKP := Lib.hid (kept_chg HKP.out d x hk3 hc3 (by have := HKK.out; omega) (by have := HKK.out; have := HOO.out; omega) (by have := HKK.out; have := HOO.out; omega))
          replace HKD := Lib.hid ((hc3.block D hDK2.out hDK).trans HKD.out)
          clear hk3 hc3 hHeld hDK2
          go_wp2_with fail
          refine hK.out _ _ trivial (fun hHeld => ?_)
          clear hK; try clear KK
          try simp only [Act.put, List.setIfInBounds_toArray, List.set_cons_zero, List.set_cons_succ]
          refine wpAnyH_ready (rs := [2]) (by kernel_rfl) (by simp) ?_
          refine AllReadyH.cons (o := ⟨some 51, _, _, _, _, _⟩) rfl (fun KK hK => ?_) AllReadyH.nil
          go_simp
          change KK _ (W3.alloc (.cells d.cells 53))
          have HV3 := HV
          replace HV := Lib.hid (HV.out.alloc (.cells d.cells 53))
          have HR4 := Lib.hid (HROW.out.alloc (.cells d.cells 53))
          have HNEW := Lib.hid (Blk.new W3 d.cells 53 W3.heap.size rfl)
          have HS4 := Lib.hid (show (W3.alloc (.cells d.cells 53)).heap.size = W3.heap.size + 1 by simp)
          generalize hW4 : W3.alloc (.cells d.cells 53) = W4 at HV HR4 HNEW HS4 ⊢
          have HW4 := Lib.hid hW4
          clear hW4
          refine hK.out _ _ trivial (fun hHeld => ?_)
          clear hK; try clear KK
          try simp only [Act.put, List.setIfInBounds_toArray, List.set_cons_zero, List.set_cons_succ]
          refine wpAnyH_ready (rs := [3]) (by kernel_rfl) (by simp) ?_
          refine AllReadyH.cons (o := ⟨some 52, _, _, _, _, _⟩) rfl (fun KK hK => ?_) AllReadyH.nil
          refine step_append_lies _ (by rfl) _ _ _ (by rfl) w.heap.size 53 i0 (.agg Bar.zero.cells) 8 64 Try.underlying46 hi0 hz0 hz1 hz2 (by rfl) (by decide) v out.length (rowsOf out) (by rfl) HR4.out ⟨W3.heap.size, 0, none⟩ 1 1 d.cells.toList (by rfl) (by rfl) (news_blk HNEW.out) (one_mem (one_bar d)) (by decide) (by unfold maxLen; omega) (by omega) (by have := HS4.out; have := HKP.out.le; omega) (W3.heap.size + 1) HS4.out ?_
          intro g cap2 w5 hown5 hgrow5 hat5 hlt5
          clear hat5 hlt5
          have HV5 := Lib.hid (HV.out.kept hgrow5 (HV.out.not_row (by decide) HR4.out))
          rw [← HW4.out] at hgrow5
          have HKP6 := Lib.hid (HKP.out.push (bs := out ++ [d]) HV3.out HROW.out (by have := HKK.out; omega) (by have := HOO.out; omega) (by have := HOO.out; omega) (by rw [rowsOf_app, List.length_append]; exact hown5) hgrow5)
          have HKO6 := Lib.hid (push_keeps HV3.out HROW.out HKP.out.le (by have := HOO.out; omega) hown5 hgrow5)
          have HKD6 := Lib.hid (HKO6.out.same D _ HKD.out rfl)
          have HV6 := Lib.hid (HV5.out.set (.slice (some ⟨g, 0, none⟩) (out.length + 1) cap2))
          have HR6 := Lib.hid (hown5.kept (grownBy_setCell' w5 O (.slice (some ⟨g, 0, none⟩) (out.length + 1) cap2)) (.inr (HV5.out.not_row (by decide) hown5).symm))
          have c0 : w5.cell? ⟨O, 0, none⟩ = some v := HV5.out.cell
          have f0 : w5.frozen? ⟨O, 0, none⟩ = false := HV5.out.frozen
          clear hown5 hgrow5
          refine hK.out _ _ trivial (fun hHeld => ?_)
          clear hK; try clear KK
          try simp only [Act.put, List.setIfInBounds_toArray, List.set_cons_zero, List.set_cons_succ]
          refine wpAnyH_ready (rs := [4]) (by kernel_rfl) (by simp) ?_
          refine AllReadyH.cons (o := ⟨none, _, _, _, _, _⟩) rfl (fun KK hK => ?_) AllReadyH.nil
          go_simp
          clear c0 f0 HV5 HKO6
          change KK _ (World.setCell w5 ⟨O, 0, none⟩ (.slice (some ⟨g, 0, none⟩) (out.length + 1) cap2))
          generalize World.setCell w5 ⟨O, 0, none⟩ (.slice (some ⟨g, 0, none⟩) (out.length + 1) cap2) = W6 at HKP6 HKD6 HV6 HR6 ⊢
          refine hK.out _ _ trivial (fun hHeld => ?_)
          clear hK; try clear KK
          refine wpAnyH_done (by kernel_rfl) ?_ _
          unfold onlyNormal
          clear HKP HROW HV HV3 HR4 HNEW HS4 HW4 HDONE hHeld HKD
          have c0 : W6.cell? ⟨O, 0, none⟩ = some (.slice (some ⟨g, 0, none⟩) (out.length + 1) cap2) := HV6.out.cell
          have f0 : W6.frozen? ⟨O, 0, none⟩ = false := HV6.out.frozen
          have HEND := Lib.hid (at_end (O := O) (HV6.out.set (.slice (some ⟨g, 0, none⟩) (out.length + 1) cap2)) (HR6.out.kept (grownBy_setCell' W6 O _) (.inr (HV6.out.not_row (by decide) HR6.out).symm)) (HKP6.out.bel.setCell (p := ⟨O, 0, none⟩) (by show w.heap.size ≤ O; have := HOO.out; omega) _) ((KeepsOthers.setCell W6 ⟨O, 0, none⟩ (.slice (some ⟨g, 0, none⟩) (out.length + 1) cap2)).same D _ HKD6.out rfl) (by have := HD.out; have := HZs.out; have := HKK.out; have := HOO.out; omega))
          have HKD2 := Lib.hid ((KeepsOthers.setCell W6 ⟨O, 0, none⟩ (.slice (some ⟨g, 0, none⟩) (out.length + 1) cap2)).same D _ HKD6.out rfl)
          gi_wp2
          refine ⟨by simp, .inl ⟨_, _, rfl, run_takeDeferred HKD2.out, ?_⟩⟩
          refine ⟨_, results_cell_tmp HEND.out.1 rfl rfl Try.underlying46, ?_⟩
          refine ⟨_, by rw [if_neg (show ¬ wd < 1 by omega)]; rfl, ?_, HEND.out.2.2⟩
          rw [if_neg (show ¬ wd < 1 by omega), HFE.out, rowsOf_app, List.length_append]
          exact HEND.out.2.1
        ·
          go_simp
          refine (HDONE.out _ HKP.out.maker).mono ?_
          rintro e W3 ⟨rfl, hk3, hc3⟩
          dsimp only [Bar.cells]
          replace HV := Lib.hid (HV.out.kept (chg_grown hc3) (by have := HKK.out; simp; omega))
          replace HROW := Lib.hid (HROW.out.kept (chg_grown hc3) (.inr (fun e => blk_not_row HKP.out.maker (by decide) HROW.out e.symm)))
          replace HKP := Lib.hid (kept_chg HKP.out d x hk3 hc3 (by have := HKK.out; omega) (by have := HKK.out; have := HOO.out; omega) (by have := HKK.out; have := HOO.out; omega))
          replace HKD := Lib.hid ((hc3.block D hDK2.out hDK).trans HKD.out)
          clear hk3 hc3 hHeld hDK2
          go_wp2_with fail
          refine hK.out _ _ trivial (fun hHeld => ?_)
          clear hK; try clear KK
          try simp only [Act.put, List.setIfInBounds_toArray, List.set_cons_zero, List.set_cons_succ]
          refine wpAnyH_ready (rs := [0, 2]) (by kernel_rfl) (by simp) ?_
          refine AllReadyH.cons (o := ⟨some 49, _, _, _, _, _⟩) rfl (fun KK hK => ?_) (AllReadyH.cons (o := ⟨some 51, _, _, _, _, _⟩) rfl (fun KK hK => ?_) AllReadyH.nil)
          ·
            have c0 : W3.cell? ⟨O, 0, none⟩ = some v := HV.out.cell
            go_simp
            refine hK.out _ _ trivial (fun hHeld => ?_)
            clear hK; try clear KK
            try simp only [Act.put, List.setIfInBounds_toArray, List.set_cons_zero, List.set_cons_succ]
            clear c0
            refine wpAnyH_ready (rs := [2]) (by kernel_rfl) (by simp) ?_
            refine AllReadyH.cons (o := ⟨some 51, _, _, _, _, _⟩) rfl (fun KK hK => ?_) AllReadyH.nil
            go_simp
            change KK _ (W3.alloc (.cells d.cells 53))
            have HV3 := HV
            replace HV := Lib.hid (HV.out.alloc (.cells d.cells 53))
            have HR4 := Lib.hid (HROW.out.alloc (.cells d.cells 53))
            have HNEW := Lib.hid (Blk.new W3 d.cells 53 W3.heap.size rfl)
            have HS4 := Lib.hid (show (W3.alloc (.cells d.cells 53)).heap.size = W3.heap.size + 1 by simp)
            generalize hW4 : W3.alloc (.cells d.cells 53) = W4 at HV HR4 HNEW HS4 ⊢
            have HW4 := Lib.hid hW4
            clear hW4
            refine hK.out _ _ trivial (fun hHeld => ?_)
            clear hK; try clear KK
            try simp only [Act.put, List.setIfInBounds_toArray, List.set_cons_zero, List.set_cons_succ]
            refine wpAnyH_ready (rs := [3]) (by kernel_rfl) (by simp) ?_
            refine AllReadyH.cons (o := ⟨some 52, _, _, _, _, _⟩) rfl (fun KK hK => ?_) AllReadyH.nil
            refine step_append_lies _ (by rfl) _ _ _ (by rfl) w.heap.size 53 i0 (.agg Bar.zero.cells) 8 64 Try.underlying46 hi0 hz0 hz1 hz2 (by rfl) (by decide) v out.length (rowsOf out) (by rfl) HR4.out ⟨W3.heap.size, 0, none⟩ 1 1 d.cells.toList (by rfl) (by rfl) (news_blk HNEW.out) (one_mem (one_bar d)) (by decide) (by unfold maxLen; omega) (by omega) (by have := HS4.out; have := HKP.out.le; omega) (W3.heap.size + 1) HS4.out ?_
            intro g cap2 w5 hown5 hgrow5 hat5 hlt5
            clear hat5 hlt5
            have HV5 := Lib.hid (HV.out.kept hgrow5 (HV.out.not_row (by decide) HR4.out))
            rw [← HW4.out] at hgrow5
            have HKP6 := Lib.hid (HKP.out.push (bs := out ++ [d]) HV3.out HROW.out (by have := HKK.out; omega) (by have := HOO.out; omega) (by have := HOO.out; omega) (by rw [rowsOf_app, List.length_append]; exact hown5) hgrow5)
            have HKO6 := Lib.hid (push_keeps HV3.out HROW.out HKP.out.le (by have := HOO.out; omega) hown5 hgrow5)
            have HKD6 := Lib.hid (HKO6.out.same D _ HKD.out rfl)
            have HV6 := Lib.hid (HV5.out.set (.slice (some ⟨g, 0, none⟩) (out.length + 1) cap2))
            have HR6 := Lib.hid (hown5.kept (grownBy_setCell' w5 O (.slice (some ⟨g, 0, none⟩) (out.length + 1) cap2)) (.inr (HV5.out.not_row (by decide) hown5).symm))
            have c0 : w5.cell? ⟨O, 0, none⟩ = some v := HV5.out.cell
            have f0 : w5.frozen? ⟨O, 0, none⟩ = false := HV5.out.frozen
            clear hown5 hgrow5
            refine hK.out _ _ trivial (fun hHeld => ?_)
            clear hK; try clear KK
            try simp only [Act.put, List.setIfInBounds_toArray, List.set_cons_zero, List.set_cons_succ]
            refine wpAnyH_ready (rs := [4]) (by kernel_rfl) (by simp) ?_
            refine AllReadyH.cons (o := ⟨none, _, _, _, _, _⟩) rfl (fun KK hK => ?_) AllReadyH.nil
            go_simp
            clear c0 f0 HV5 HKO6
            change KK _ (World.setCell w5 ⟨O, 0, none⟩ (.slice (some ⟨g, 0, none⟩) (out.length + 1) cap2))
            generalize World.setCell w5 ⟨O, 0, none⟩ (.slice (some ⟨g, 0, none⟩) (out.length + 1) cap2) = W6 at HKP6 HKD6 HV6 HR6 ⊢
            refine hK.out _ _ trivial (fun hHeld => ?_)
            clear hK; try clear KK
            refine wpAnyH_done (by kernel_rfl) ?_ _
            unfold onlyNormal
            clear HKP HROW HV HV3 HR4 HNEW HS4 HW4 HDONE hHeld HKD
            have c0 : W6.cell? ⟨O, 0, none⟩ = some (.slice (some ⟨g, 0, none⟩) (out.length + 1) cap2) := HV6.out.cell
            have f0 : W6.frozen? ⟨O, 0, none⟩ = false := HV6.out.frozen
            have HEND := Lib.hid (at_end (O := O) (HV6.out.set (.slice (some ⟨g, 0, none⟩) (out.length + 1) cap2)) (HR6.out.kept (grownBy_setCell' W6 O _) (.inr (HV6.out.not_row (by decide) HR6.out).symm)) (HKP6.out.bel.setCell (p := ⟨O, 0, none⟩) (by show w.heap.size ≤ O; have := HOO.out; omega) _) ((KeepsOthers.setCell W6 ⟨O, 0, none⟩ (.slice (some ⟨g, 0, none⟩) (out.length + 1) cap2)).same D _ HKD6.out rfl) (by have := HD.out; have := HZs.out; have := HKK.out; have := HOO.out; omega))
            have HKD2 := Lib.hid ((KeepsOthers.setCell W6 ⟨O, 0, none⟩ (.slice (some ⟨g, 0, none⟩) (out.length + 1) cap2)).same D _ HKD6.out rfl)
            gi_wp2
            refine ⟨by simp, .inl ⟨_, _, rfl, run_takeDeferred HKD2.out, ?_⟩⟩
            refine ⟨_, results_cell_tmp HEND.out.1 rfl rfl Try.underlying46, ?_⟩
            refine ⟨_, by rw [if_neg (show ¬ wd < 1 by omega)]; rfl, ?_, HEND.out.2.2⟩
            rw [if_neg (show ¬ wd < 1 by omega), HFE.out, rowsOf_app, List.length_append]
            exact HEND.out.2.1
          ·
            go_simp
            change KK _ (W3.alloc (.cells d.cells 53))
            have HV3 := HV
            replace HV := Lib.hid (HV.out.alloc (.cells d.cells 53))
            have HR4 := Lib.hid (HROW.out.alloc (.cells d.cells 53))
            have HNEW := Lib.hid (Blk.new W3 d.cells 53 W3.heap.size rfl)
            have HS4 := Lib.hid (show (W3.alloc (.cells d.cells 53)).heap.size = W3.heap.size + 1 by simp)
            generalize hW4 : W3.alloc (.cells d.cells 53) = W4 at HV HR4 HNEW HS4 ⊢
            have HW4 := Lib.hid hW4
            clear hW4
            refine hK.out _ _ trivial (fun hHeld => ?_)
            clear hK; try clear KK
            try simp only [Act.put, List.setIfInBounds_toArray, List.set_cons_zero, List.set_cons_succ]
            refine wpAnyH_ready (rs := [0]) (by kernel_rfl) (by simp) ?_
            refine AllReadyH.cons (o := ⟨some 49, _, _, _, _, _⟩) rfl (fun KK hK => ?_) AllReadyH.nil
            have c0 : W4.cell? ⟨O, 0, none⟩ = some v := HV.out.cell
            go_simp
            refine hK.out _ _ trivial (fun hHeld => ?_)
            clear hK; try clear KK
            try simp only [Act.put, List.setIfInBounds_toArray, List.set_cons_zero, List.set_cons_succ]
            clear c0
            refine wpAnyH_ready (rs := [3]) (by kernel_rfl) (by simp) ?_
            refine AllReadyH.cons (o := ⟨some 52, _, _, _, _, _⟩) rfl (fun KK hK => ?_) AllReadyH.nil
            refine step_append_lies _ (by rfl) _ _ _ (by rfl) w.heap.size 53 i0 (.agg Bar.zero.cells) 8 64 Try.underlying46 hi0 hz0 hz1 hz2 (by rfl) (by decide) v out.length (rowsOf out) (by rfl) HR4.out ⟨W3.heap.size, 0, none⟩ 1 1 d.cells.toList (by rfl) (by rfl) (news_blk HNEW.out) (one_mem (one_bar d)) (by decide) (by unfold maxLen; omega) (by omega) (by have := HS4.out; have := HKP.out.le; omega) (W3.heap.size + 1) HS4.out ?_
            intro g cap2 w5 hown5 hgrow5 hat5 hlt5
            clear hat5 hlt5
            have HV5 := Lib.hid (HV.out.kept hgrow5 (HV.out.not_row (by decide) HR4.out))
            rw [← HW4.out] at hgrow5
            have HKP6 := Lib.hid (HKP.out.push (bs := out ++ [d]) HV3.out HROW.out (by have := HKK.out; omega) (by have := HOO.out; omega) (by have := HOO.out; omega) (by rw [rowsOf_app, List.length_append]; exact hown5) hgrow5)
            have HKO6 := Lib.hid (push_keeps HV3.out HROW.out HKP.out.le (by have := HOO.out; omega) hown5 hgrow5)
            have HKD6 := Lib.hid (HKO6.out.same D _ HKD.out rfl)
            have HV6 := Lib.hid (HV5.out.set (.slice (some ⟨g, 0, none⟩) (out.length + 1) cap2))
            have HR6 := Lib.hid (hown5.kept (grownBy_setCell' w5 O (.slice (some ⟨g, 0, none⟩) (out.length + 1) cap2)) (.inr (HV5.out.not_row (by decide) hown5).symm))
            have c0 : w5.cell? ⟨O, 0, none⟩ = some v := HV5.out.cell
            have f0 : w5.frozen? ⟨O, 0, none⟩ = false := HV5.out.frozen
            clear hown5 hgrow5
            refine hK.out _ _ trivial (fun hHeld => ?_)
            clear hK; try clear KK
            try simp only [Act.put, List.setIfInBounds_toArray, List.set_cons_zero, List.set_cons_succ]
            refine wpAnyH_ready (rs := [4]) (by kernel_rfl) (by simp) ?_
            refine AllReadyH.cons (o := ⟨none, _, _, _, _, _⟩) rfl (fun KK hK => ?_) AllReadyH.nil
            go_simp
            clear c0 f0 HV5 HKO6
            change KK _ (World.setCell w5 ⟨O, 0, none⟩ (.slice (some ⟨g, 0, none⟩) (out.length + 1) cap2))
            generalize World.setCell w5 ⟨O, 0, none⟩ (.slice (some ⟨g, 0, none⟩) (out.length + 1) cap2) = W6 at HKP6 HKD6 HV6 HR6 ⊢
            refine hK.out _ _ trivial (fun hHeld => ?_)
            clear hK; try clear KK
            refine wpAnyH_done (by kernel_rfl) ?_ _
            unfold onlyNormal
            clear HKP HROW HV HV3 HR4 HNEW HS4 HW4 HDONE hHeld HKD
            have c0 : W6.cell? ⟨O, 0, none⟩ = some (.slice (some ⟨g, 0, none⟩) (out.length + 1) cap2) := HV6.out.cell
            have f0 : W6.frozen? ⟨O, 0, none⟩ = false := HV6.out.frozen
            have HEND := Lib.hid (at_end (O := O) (HV6.out.set (.slice (some ⟨g, 0, none⟩) (out.length + 1) cap2)) (HR6.out.kept (grownBy_setCell' W6 O _) (.inr (HV6.out.not_row (by decide) HR6.out).symm)) (HKP6.out.bel.setCell (p := ⟨O, 0, none⟩) (by show w.heap.size ≤ O; have := HOO.out; omega) _) ((KeepsOthers.setCell W6 ⟨O, 0, none⟩ (.slice (some ⟨g, 0, none⟩) (out.length + 1) cap2)).same D _ HKD6.out rfl) (by have := HD.out; have := HZs.out; have := HKK.out; have := HOO.out; omega))
            have HKD2 := Lib.hid ((KeepsOthers.setCell W6 ⟨O, 0, none⟩ (.slice (some ⟨g, 0, none⟩) (out.length + 1) cap2)).same D _ HKD6.out rfl)
            gi_wp2
            refine ⟨by simp, .inl ⟨_, _, rfl, run_takeDeferred HKD2.out, ?_⟩⟩
            refine ⟨_, results_cell_tmp HEND.out.1 rfl rfl Try.underlying46, ?_⟩
            refine ⟨_, by rw [if_neg (show ¬ wd < 1 by omega)]; rfl, ?_, HEND.out.2.2⟩
            rw [if_neg (show ¬ wd < 1 by omega), HFE.out, rowsOf_app, List.length_append]
            exact HEND.out.2.1
      · have HFE := Lib.hid (HF.out.trans (if_neg hp))
        have c0 : W.cell? ⟨O, 0, none⟩ = some v := HV.out.cell
        have f0 : W.frozen? ⟨O, 0, none⟩ = false := HV.out.frozen
        obtain ⟨va, vc, rfl⟩ := row_slice HROW.out
        have HEND := Lib.hid (at_end (O := O) (HV.out.set (.slice va out.length vc)) (HROW.out.kept (grownBy_setCell' W O _) (.inr (HV.out.not_row (by decide) HROW.out).symm)) (HKP.out.bel.setCell (p := ⟨O, 0, none⟩) (by show w.heap.size ≤ O; have := HOO.out; omega) _) ((KeepsOthers.setCell W ⟨O, 0, none⟩ (.slice va out.length vc)).same D _ HKD.out rfl) (by have := HD.out; have := HZs.out; have := HKK.out; have := HOO.out; omega))
        have HKD2 := Lib.hid ((KeepsOthers.setCell W ⟨O, 0, none⟩ (.slice va out.length vc)).same D _ HKD.out rfl)
        gi_wp2
        refine ⟨by simp, .inl ⟨_, _, rfl, run_takeDeferred HKD2.out, ?_⟩⟩
        refine ⟨_, results_cell_tmp HEND.out.1 rfl rfl Try.underlying46, ?_⟩
        refine ⟨_, by rw [if_neg (show ¬ wd < 1 by omega)]; rfl, ?_, HEND.out.2.2⟩
        rw [if_neg (show ¬ wd < 1 by omega), HFE.out]
        exact HEND.out.2.1
    case stop =>
      rintro D c pre W hD hpre h
      exact h.elim
end Go.Proofs.Ytogjgpiddjmpiaa.Tape
