/- tape.Whole: the bar of all that counts. -/
import Derived.Test.YtogjgpiddjmpiaaTapeBars
import Derived.Test.YtogjgpiddjmpiaaTapeGroup
namespace Go.Proofs.Ytogjgpiddjmpiaa.Tape
set_option linter.unusedVariables false
open Go.RowKit Go.Shelf Go.Proofs.Ytogjgpiddjmpiaa.Kit Go.Proofs.Ytogjgpiddjmpiaa.Blk Go.Proofs.Ytogjgpiddjmpiaa.Msgs Go.Proofs.Ytogjgpiddjmpiaa.Iter
attribute [local go_sem] Oper.semAt_some wide_fn

/-- The maker behind some trades. -/
def wb : List Msg → Bar
  | [] => Bar.zero
  | m :: l => gb m.tick m (m :: l)
theorem wb_trd (l : List Msg) : (wb l).trd = (l.length : Int) := by cases l <;> rfl
theorem wb_snoc (l : List Msg) (m : Msg) : addF (wb l) (if 0 < (wb l).trd then (wb l).frm else m.tick) m = wb (l ++ [m]) := by
  cases l with
  | nil =>
    rw [if_neg (by rw [wb_trd]; simp)]
    exact gb_one _ _
  | cons m0 t =>
    rw [if_pos (by rw [wb_trd]; simp)]
    exact gb_snoc m0.tick m0 (m0 :: t) m (by simp)
theorem sound_wb (l : List Msg) (hl : ∀ m ∈ l, Good m) : Sound (wb l) (wos l) l.length := by
  revert hl
  refine rev_ind (p := fun l => (∀ m ∈ l, Good m) → Sound (wb l) (wos l) l.length) ?_ ?_ l
  · exact fun _ => sound_zero 0
  · intro l m ih hl
    have h := sound_add (ih (fun x hx => hl x (List.mem_append_left _ hx))) (if 0 < (wb l).trd then (wb l).frm else m.tick) (hl m (List.mem_append_right _ List.mem_cons_self))
    rw [wb_snoc] at h
    rw [wos_snoc, List.length_append]
    exact h
def wholeF (l : List Msg) : Bar := if l = [] then Bar.zero else doneF (wb l) (wos l)
def isAny (l : List Msg) : Bool := !l.isEmpty
structure WKept (N K : Nat) (w : World) (l : List Msg) (W : World) : Prop where
  res : Blk W N Bar.zero.cells 53
  maker : Blk W K (mk (wb l) (wos l)) 146
  bel : Below N w W
  top : N ≤ w.heap.size
theorem WKept.le {N K : Nat} {w : World} {l : List Msg} {W : World} (h : WKept N K w l W) : N ≤ W.heap.size := Nat.le_trans h.top h.bel.size
theorem wkept_own {N K : Nat} {w : World} {β : Type} (f : β → List Msg) {B : Nat} (hN : N ≤ B) : OwnFrom B (fun x W => WKept N K w (f x) W) := by
  intro x W W' row hs hg hr
  have hr' : ∀ r, row = some r → ∃ o : Obj, W.heap[r]? = some o ∧ o.isCells = false := fun r e => (hr r e).2
  exact ⟨(grownBy_keeps_cells hg hr' hs.res rfl).trans hs.res, (grownBy_keeps_cells hg hr' hs.maker rfl).trans hs.maker, ownFrom_below (w₀ := w) hs.top hN x W W' row hs.bel hg hr, hs.top⟩
theorem WKept.below {N K : Nat} {w : World} {l : List Msg} {W W' : World} (h : WKept N K w l W) (hb : Below W.heap.size W W') : WKept N K w l W' :=
  ⟨h.res.below hb h.res.lt, h.maker.below hb h.maker.lt, h.bel.trans (hb.mono h.le), h.top⟩
theorem wkept_chg {N K : Nat} {w : World} {l l' : List Msg} {W W' : World} (h : WKept N K w l W) (hK : Blk W' K (mk (wb l') (wos l')) 146) (hc : Chg W.heap.size K W W') (hNK : N < K) : WKept N K w l' W' :=
  ⟨hc.blk h.res.lt (by omega) h.res, hK, h.bel.trans (hc.below' (by omega) h.le), h.top⟩
/-- What Whole returns. -/
def WholeIs (l : List Msg) (w : World) (e : Ending) (w' : World) : Prop := e = .returned (.tuple #[.agg (wholeF l).cells, .bool (isAny l)]) ∧ Below w.heap.size w w'
theorem results_blk_tmp' {P : Program} {fn : Func} {p u : Tmp} {ty T : TypeId} {tmps : Array Value} {w : World} {B : Nat} {cs : Array Value} {d : TypeDesc} (hb : Blk w B cs T) (h : fn.results = #[.cell p ty, .tmp u]) (hp : tmps.getD p undef = .pointer (some ⟨B, 0, none⟩))
    (hu : P.underlying ty = some d) (hd : d.isRow = true) (hi : (P.info? ty).map (·.size) = some cs.size) : (results fn tmps).run P w = .ok (.tuple #[.agg cs, tmps.getD u undef]) w := by
  have hp' : tmps[p]?.getD undef = .pointer (some ⟨B, 0, none⟩) := by simpa using hp
  have hl := run_loadVar_mid w B 0 ty cs.toList d hb.range hu hd (by simpa using hi)
  simp [results, h, hp', asAddr, hl]

theorem keeps_sets {B : Nat} (vs : List Value) : ∀ (o : Nat) (W : World), KeepsOthers W (W.setCells B o vs) := by
  induction vs with
  | nil => intro o W; exact KeepsOthers.refl _
  | cons v vs ih => intro o W; exact (KeepsOthers.setCell W ⟨B, o, none⟩ v).trans (ih (o + 1) _)
theorem blk_put {W : World} {B D : Nat} {cs : Array Value} {T : TypeId} (h : Blk W B cs T) (hK : W.heap[D]? = some (.deferred (some []))) : Blk (W.putObj D (.deferred none)) B cs T := by
  have hne : B ≠ D := fun e => by subst e; rw [show W.heap[B]? = _ from h] at hK; cases hK
  exact (World.putObj_heap_other hne).trans h

set_option maxRecDepth 100000 in
set_option maxHeartbeats 4000000 in
theorem whole_any (a : Option Addr) (cap : Nat) (ms : List Msg) (sym : Int) (w : World) (hm : MsgRow w a ms) (hl : ms.length ≤ 1000) (hfit : ∀ m ∈ ms, m.tick ≤ 9223372036854775807) :
    Calls Try.prog 27 #[.slice a ms.length cap, .int .i64 sym] w fun e w' => WholeIs ((cnt sym ms).map Subtype.val) w e w' := by
  refine of_wide (n := 9) ?_
  refine callsIn_of_wp_marks Try.func27 rfl trivial ?_ rfl
  simp only [Try.ntmps27, List.size_toArray, List.length_cons, List.length_nil, Nat.reduceAdd, Nat.reduceSub, Array.replicate_succ, Array.replicate_zero, List.push_toArray, List.append_toArray, List.nil_append, List.cons_append]
  have hO1 := Blk.new w Bar.zero.cells 53 w.heap.size rfl
  have hWs : (w.alloc (.cells Bar.zero.cells 53)).heap.size = w.heap.size + 1 := by simp
  have HR := Lib.hid (hO1.old (.cells mkZero 146))
  have HL := Lib.hid (((Below.refl w.heap.size w).alloc (Nat.le_refl _) (.cells Bar.zero.cells 53)).alloc (by simp) (.cells mkZero 146))
  have HK := Lib.hid (Blk.new (w.alloc (.cells Bar.zero.cells 53)) mkZero 146 (w.heap.size + 1) hWs)
  have hX : ((w.alloc (.cells Bar.zero.cells 53)).alloc (.cells mkZero 146)).heap.size = w.heap.size + 1 + 1 := by simp
  have HM := Lib.hid (hm.all HL.out)
  have HMB := Lib.hid (msg_old hm)
  clear hO1 hWs hm
  gi_wp2_with fail
  change CallsIn _ _ _ _ _ ((w.alloc (.cells Bar.zero.cells 53)).alloc (.cells mkZero 146)) _
  generalize (w.alloc (.cells Bar.zero.cells 53)).alloc (.cells mkZero 146) = X at HR HL HK HM hX ⊢
  generalize hKK : w.heap.size + 1 = K at HK hX ⊢
  have HKK := Lib.hid hKK
  have HX := Lib.hid hX
  refine (to_wide (counts_any _ a ms.length cap sym X rfl (K + 1) hX)).mono ?_
  clear hX hKK
  rintro e w2 ⟨rfl, rfl⟩
  gi_wp2_with fail
  have HXs := Lib.hid (Blk.new X #[.slice a ms.length cap] 45 (K + 1) HX.out)
  replace HXs := Lib.hid (HXs.out.old (.cells #[.int .i64 sym] 3))
  have HXy := Lib.hid (Blk.new (X.alloc (.cells #[.slice a ms.length cap] 45)) #[.int .i64 sym] 3 (K + 1 + 1) (by rw [World.size_alloc, HX.out]))
  have HZs := Lib.hid (show ((X.alloc (.cells #[.slice a ms.length cap] 45)).alloc (.cells #[.int .i64 sym] 3)).heap.size = K + 3 by rw [World.size_alloc, World.size_alloc, HX.out])
  have hbz : Below X.heap.size X ((X.alloc (.cells #[.slice a ms.length cap] 45)).alloc (.cells #[.int .i64 sym] 3)) := ((Below.refl _ _).alloc (Nat.le_refl _) _).alloc (by simp) _
  replace HR := Lib.hid (HR.out.below hbz HR.out.lt)
  replace HK := Lib.hid (HK.out.below hbz HK.out.lt)
  replace HL := Lib.hid (HL.out.trans (hbz.mono HL.out.size))
  replace HM := Lib.hid (HM.out.all hbz)
  clear hbz
  generalize (X.alloc (.cells #[.slice a ms.length cap] 45)).alloc (.cells #[.int .i64 sym] 3) = Z at HR HK HL HM HXs HXy HZs ⊢
  clear HX
  refine wpIn_rangeFunc_ownH (w0 := Z) rfl (by decide) (gf := 113) (lb := #[.pointer (some ⟨K + 1, 0, none⟩), .pointer (some ⟨K + 1 + 1, 0, none⟩)]) rfl trivial (enters_of Try.func113 (by kernel_rfl) rfl)
    (counts_stops 8 (by decide) sym a cap ms hl hfit (K + 1) (K + 1 + 1) (SB w.heap.size K) (fun b off ha hn => Or.inl (HMB.out b off ha hn)) (by simp [SB]) Z (fun b hb => by have := HZs.out; have := HKK.out; unfold SB at hb; omega) HXs.out HXy.out HM.out) kz_t (kz_b (fun b hb => by have := HZs.out; have := HKK.out; unfold SB at hb; omega)) (Below.refl _ _) (fun _ => rfl)
    (fun (pre : List TM) W => WKept w.heap.size K w (pre.map Subtype.val) W ∧ KZ (SB w.heap.size K) Z W)
    (fun _ _ _ => False)
    (OwnFrom.and (wkept_own _ HL.out.size) (kz_own (Nat.le_refl _) (fun b hb => by have := HZs.out; have := HKK.out; unfold SB at hb; omega)))
    (fun c s W W' row hs _ _ => hs)
    ⟨⟨HR.out, (by have h := HK.out; rw [mk_zero] at h; exact h), HL.out, Nat.le_refl _⟩, kz_refl _ _⟩
    (fun x a' W => ∃ Bx, Z.heap.size ≤ Bx ∧ Blk W Bx x.1.cells 66 ∧ a' = { tmps := #[.slice a ms.length cap, .int .i64 sym, undef, undef, .pointer (some ⟨w.heap.size, 0, none⟩), .bool false, .pointer (some ⟨K, 0, none⟩), .pointer (some ⟨Bx, 0, none⟩), undef,
      .slice a ms.length cap, .int .i64 sym, .func (.func 113) #[] #[.pointer (some ⟨K + 1, 0, none⟩), .pointer (some ⟨K + 1 + 1, 0, none⟩)], .agg x.1.cells, undef, undef, undef, undef, undef, undef, undef, undef, undef, undef, undef, undef, undef, undef, undef, undef, undef, undef], defers := [] })
    (fun x a' s W W' row hs hg hr => by obtain ⟨Bx, h1, h2, h3⟩ := hs; exact ⟨Bx, h1, (grownBy_keeps_cells hg (fun r e => (hr r e).2) h2 rfl).trans h2, h3⟩) ?assign ?body ?done ?stop
  case assign =>
    rintro l pre x W K' ⟨hi, hz⟩ hK'
    have HZ := Lib.hid (Blk.new W msgZero 66 W.heap.size rfl)
    have HFIN := Lib.hid (hK' _ _ ((KeepsOthers.alloc W (.cells x.1.cells 66)).from _) (kz_below ((Below.refl W.heap.size W).alloc (Nat.le_refl _) (.cells x.1.cells 66)) (fun b hb => by have := HZs.out; have := HKK.out; have := hz.2; unfold SB at hb; omega))
      ⟨hi.below ((Below.refl W.heap.size W).alloc (Nat.le_refl _) (.cells x.1.cells 66)), kz_t hz (kz_below ((Below.refl W.heap.size W).alloc (Nat.le_refl _) (.cells x.1.cells 66)) (fun b hb => by have := HZs.out; have := HKK.out; have := hz.2; unfold SB at hb; omega))⟩
      ⟨W.heap.size, hz.2, Blk.new W x.1.cells 66 W.heap.size rfl, rfl⟩)
    clear hK' hi hz
    gi_wp2_with (refine storeR_blk l (by rfl) 66 _ _ (by rfl) W.heap.size (by rfl) msgZero x.1.cells 66 HZ.out (by rfl) (by rfl) (by kernel_rfl) (one_msg _) ?_; change wpListIn _ _ _ _ _ _ _ (World.setCells (W.alloc (.cells msgZero 66)) W.heap.size 0 x.1.cells.toList); rw [alloc_setCells W msgZero x.1.cells 66 rfl W.heap.size rfl])
    exact HFIN.out
  case body =>
    rintro l pre x a' W hWl ⟨r, hr⟩ ⟨hkept, hkz⟩ ⟨Bx, hBx, bX, rfl⟩ hlen
    obtain ⟨m, hg⟩ := x
    have hn : pre.length ≤ 999 := by have := cnt_len sym ms; omega
    have hsnd := sound_wb (pre.map Subtype.val) (fun m hm => by obtain ⟨y, _, rfl⟩ := List.mem_map.1 hm; exact y.2)
    rw [List.length_map] at hsnd
    have HST0 := Lib.hid (wb_snoc (pre.map Subtype.val) m)
    have HWO0 := Lib.hid (wos_snoc (pre.map Subtype.val) m)
    have hsm := sound_small hsnd (by omega)
    have ht0 := hsnd.t0
    have hv0 := hsnd.v0
    obtain ⟨ht1, hv1, hx1⟩ := hsm
    have HKP := Lib.hid hkept
    have HMK0 := Lib.hid hkept.maker
    have HKZ := Lib.hid hkz
    have HBX := Lib.hid bX
    have HR := Lib.hid hr
    clear hkept hkz bX hr hlen hsnd
    have HL1 := Lib.hid (show (pre.map Subtype.val) ++ [m] = (pre ++ [(⟨m, hg⟩ : TM)]).map Subtype.val by simp)
    have HMK := HMK0
    have HST := HST0
    have HWO := HWO0
    generalize hbb : wb (pre.map Subtype.val) = b at HMK HST ht0 ht1 hv0 hv1
    generalize hxx : wos (pre.map Subtype.val) = x at HMK HWO hx1
    clear hbb hxx HMK0 HST0 HWO0
    have c3 : W.cell? ⟨Bx, 3, none⟩ = some (.int .i64 m.tick) := HBX.out.cell 3 rfl
    have k6 : W.cell? ⟨K, 6, none⟩ = some (.int .i64 b.trd) := HMK.out.cell 6 rfl
    have k0 : W.cell? ⟨K, 0, none⟩ = some (.int .i64 b.frm) := HMK.out.cell 0 rfl
    by_cases hz : 0 < b.trd
    · rw [if_pos hz] at HST
      generalize hff : b.frm = f at HST k0
      clear hff
      have HADD := Lib.hid (fun w (h : Blk w K (mk b x) 146) => add_any K b x f m w h hg ht0 ht1 hv0 hv1 hx1)
      gi_wp2_with (refine loadR_blk l (by rfl) 66 _ (by rfl) Bx (by rfl) m.cells 66 HBX.out _ Try.underlying66 rfl (by kernel_rfl) ?_)
      refine (CallsIn.inRound l (to_wide (HADD.out _ HMK.out))).mono ?_
      rintro e w2 ⟨rfl, hk2, hc2⟩
      rw [HST.out, ← HWO.out] at hk2
      have HEND := Lib.hid (wkept_chg HKP.out hk2 hc2 (by have := HKK.out; omega))
      have HZ2 := Lib.hid (kz_chg (S := SB w.heap.size K) hc2 (fun b hb => ⟨Nat.lt_of_lt_of_le (by have := HZs.out; have := HKK.out; unfold SB at hb; omega) HKZ.out.2, by have := HKK.out; unfold SB at hb; omega⟩))
      have HF2 := Lib.hid (kf_chg (B := Z.heap.size) hc2 (by have := HZs.out; omega))
      clear hk2 hc2
      gi_wp2
      exact ⟨HF2.out, HZ2.out, by rw [List.map_append]; exact HEND.out, kz_t HKZ.out HZ2.out⟩
    · rw [if_neg hz] at HST
      generalize hff : m.tick = f at HST c3
      clear hff
      have HADD := Lib.hid (fun w (h : Blk w K (mk b x) 146) => add_any K b x f m w h hg ht0 ht1 hv0 hv1 hx1)
      gi_wp2_with (refine loadR_blk l (by rfl) 66 _ (by rfl) Bx (by rfl) m.cells 66 HBX.out _ Try.underlying66 rfl (by kernel_rfl) ?_)
      refine (CallsIn.inRound l (to_wide (HADD.out _ HMK.out))).mono ?_
      rintro e w2 ⟨rfl, hk2, hc2⟩
      rw [HST.out, ← HWO.out] at hk2
      have HEND := Lib.hid (wkept_chg HKP.out hk2 hc2 (by have := HKK.out; omega))
      have HZ2 := Lib.hid (kz_chg (S := SB w.heap.size K) hc2 (fun b hb => ⟨Nat.lt_of_lt_of_le (by have := HZs.out; have := HKK.out; unfold SB at hb; omega) HKZ.out.2, by have := HKK.out; unfold SB at hb; omega⟩))
      have HF2 := Lib.hid (kf_chg (B := Z.heap.size) hc2 (by have := HZs.out; omega))
      clear hk2 hc2
      gi_wp2
      exact ⟨HF2.out, HZ2.out, by rw [List.map_append]; exact HEND.out, kz_t HKZ.out HZ2.out⟩
  case done =>
    rintro D xs W hD rfl ⟨hkept, hkz⟩ hKd
    have hgd : ∀ m ∈ (cnt sym ms).map Subtype.val, Good m := fun m hm => by obtain ⟨y, _, rfl⟩ := List.mem_map.1 hm; exact y.2
    have hn : ((cnt sym ms).map Subtype.val).length ≤ 1000 := by rw [List.length_map]; have := cnt_len sym ms; omega
    generalize hLL : (cnt sym ms).map Subtype.val = L at hkept hgd hn
    have HLL := Lib.hid hLL
    clear hLL
    have hsnd := sound_wb L hgd
    have htr := wb_trd L
    have HRES := Lib.hid hkept.res
    have HMK := Lib.hid hkept.maker
    have HB := Lib.hid hkept.bel
    have HKD := Lib.hid hKd
    have HD := Lib.hid hD
    clear hkept hkz hKd hD hgd
    have HWB := Lib.hid (show wholeF L = if L = [] then Bar.zero else doneF (wb L) (wos L) from rfl)
    by_cases hz : L = []
    · have HI := Lib.hid (show isAny L = false by rw [hz]; rfl)
      have ht : (wb L).trd = 0 := by rw [htr, hz]; rfl
      replace HWB := Lib.hid (HWB.out.trans (if_pos hz))
      clear hz htr hsnd
      generalize wb L = b at HMK ht
      generalize wos L = x at HMK
      have k6 : W.cell? ⟨K, 6, none⟩ = some (.int .i64 b.trd) := HMK.out.cell 6 rfl
      have HR2 := Lib.hid (HRES.out.setCells Bar.zero.cells rfl)
      have HB2 := Lib.hid (Blk.Below.setCells (B := w.heap.size) Bar.zero.cells.toList 0 _ HB.out (Nat.le_refl _))
      have HKD2 := Lib.hid ((keeps_sets (B := w.heap.size) Bar.zero.cells.toList 0 W).same D _ HKD.out rfl)
      gi_wp2_with (refine storeW_blk trivial (by rfl) 53 _ _ (by rfl) w.heap.size (by rfl) Bar.zero.cells Bar.zero.cells 53 HRES.out (by rfl) (by rfl) (by kernel_rfl) (one_bar _) ?_)
      refine ⟨by simp, .inl ⟨_, _, rfl, run_takeDeferred HKD2.out, ?_⟩⟩
      refine ⟨_, results_blk_tmp' (blk_put HR2.out HKD2.out) rfl rfl Try.underlying53 rfl (by kernel_rfl), ?_⟩
      exact ⟨by rw [HLL.out, HWB.out, HI.out]; rfl, HB2.out.trans (belowK_b (w := w) (Nat.le_refl _) _ D _ _ (by have := HD.out; have := HZs.out; have := HKK.out; omega) HKD2.out rfl rfl)⟩
    · have HI := Lib.hid (show isAny L = true by cases L; exact absurd rfl hz; rfl)
      have ht : (wb L).trd ≠ 0 := by rw [htr]; cases L; exact absurd rfl hz; simp; omega
      replace HWB := Lib.hid (HWB.out.trans (if_neg hz))
      have hme := sound_mean hsnd ht hn
      have HDONE := Lib.hid (show ∀ w, Blk w K (mk (wb L) (wos L)) 146 → Calls Try.prog 73 #[.pointer (some ⟨K, 0, none⟩)] w fun e w' => e = .returned (.agg (doneF (wb L) (wos L)).cells) ∧ Blk w' K (mk (doneF (wb L) (wos L)) (wos L)) 146 ∧ Chg w.heap.size K w w' from
        fun w h => done_any K (wb L) (wos L) (wb L).vol.toNat w h hme.1 hme.2.1 hme.2.2.1 hme.2.2.2.1 hme.2.2.2.2)
      clear hz htr hsnd hme
      generalize doneF (wb L) (wos L) = d at HDONE HWB
      generalize wos L = x at HMK HDONE
      generalize wb L = b at HMK ht HDONE
      have b1 : (b.trd == 0) = false := by simpa using ht
      have hDK : ¬ D = K := fun e => by
        have h1 := HKD.out
        rw [e, show W.heap[K]? = _ from HMK.out] at h1
        cases h1
      have hDl : D < W.heap.size := (Array.getElem?_eq_some_iff.1 HKD.out).1
      have k6 : W.cell? ⟨K, 6, none⟩ = some (.int .i64 b.trd) := HMK.out.cell 6 rfl
      clear ht
      gi_wp2_with fail
      refine (to_wide (HDONE.out _ HMK.out)).mono ?_
      rintro e w3 ⟨rfl, hk3, hc3⟩
      have HRES3 := Lib.hid (hc3.blk HRES.out.lt (by have := HKK.out; omega) HRES.out)
      have HKD3 := Lib.hid ((hc3.block D hDl hDK).trans HKD.out)
      have HB3 := Lib.hid (HB.out.trans (hc3.below' (by have := HKK.out; omega) HB.out.size))
      clear hk3 hc3 k6
      have HR2 := Lib.hid (HRES3.out.setCells d.cells rfl)
      have HB2 := Lib.hid (Blk.Below.setCells (B := w.heap.size) d.cells.toList 0 _ HB3.out (Nat.le_refl _))
      have HKD2 := Lib.hid ((keeps_sets (B := w.heap.size) d.cells.toList 0 w3).same D _ HKD3.out rfl)
      gi_wp2_with (refine storeW_blk trivial (by rfl) 53 _ _ (by rfl) w.heap.size (by rfl) Bar.zero.cells d.cells 53 HRES3.out (by rfl) (by rfl) (by kernel_rfl) (one_bar _) ?_)
      refine ⟨by simp, .inl ⟨_, _, rfl, run_takeDeferred HKD2.out, ?_⟩⟩
      refine ⟨_, results_blk_tmp' (blk_put HR2.out HKD2.out) rfl rfl Try.underlying53 rfl (by kernel_rfl), ?_⟩
      exact ⟨by rw [HLL.out, HWB.out, HI.out]; rfl, HB2.out.trans (belowK_b (w := w) (Nat.le_refl _) _ D _ _ (by have := HD.out; have := HZs.out; have := HKK.out; omega) HKD2.out rfl rfl)⟩
  case stop =>
    rintro D c pre W hD hpre h
    exact h.elim
end Go.Proofs.Ytogjgpiddjmpiaa.Tape
