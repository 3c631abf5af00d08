/- tape.Volumes: a map of volumes by price. -/
import Derived.Test.YtogjgpiddjmpiaaTapeWhole
import Derived.Test.YtogjgpiddjmpiaaVolD
import Derived.Maps.OwnIn
namespace Go.Proofs.Ytogjgpiddjmpiaa.Tape
set_option linter.unusedVariables false
open Go.RowKit Go.Shelf Go.Proofs.Ytogjgpiddjmpiaa.Kit Go.Proofs.Ytogjgpiddjmpiaa.Blk Go.Proofs.Ytogjgpiddjmpiaa.Msgs Go.Proofs.Ytogjgpiddjmpiaa.Iter
attribute [local go_sem] Oper.semAt_some wide_fn

theorem zero64 (w : World) : (zeroValue 2).run Try.prog w = .ok (.int .i64 0) w := by kernel_rfl
/-- The map of volumes in block N, its box in block K. -/
structure VK (N K : Nat) (w : World) (l : List Msg) (W : World) : Prop where
  box : Blk W K #[.map (some N)] 63
  own : W.ownsMap Try.prog 2 (plainElem Try.prog 2) N l.length (volD l)
  bel : Below N w W
  top : N ≤ w.heap.size
theorem VK.le {N K : Nat} {w : World} {l : List Msg} {W : World} (h : VK N K w l W) : N ≤ W.heap.size := Nat.le_trans h.top h.bel.size
theorem vk_own {N K : Nat} {w : World} {β : Type} (f : β → List Msg) {B : Nat} (hN : N < B) : OwnFrom B (fun x W => VK N K w (f x) W) := by
  intro x W W' row hs hg hr
  have hr' : ∀ r, row = some r → ∃ o : Obj, W.heap[r]? = some o ∧ o.isCells = false := fun r e => (hr r e).2
  exact ⟨(grownBy_keeps_cells hg hr' hs.box rfl).trans hs.box, hs.own.kept hg (fun e => by have := (hr _ e.symm).1; omega), ownFrom_below (w₀ := w) hs.top (Nat.le_of_lt hN) x W W' row hs.bel hg hr, hs.top⟩
theorem VK.below {N K : Nat} {w : World} {l : List Msg} {W W' : World} (h : VK N K w l W) (hb : Below W.heap.size W W') : VK N K w l W' :=
  ⟨h.box.below hb h.box.lt, h.own.kept (row := none) ⟨hb.os, hb.tape, hb.output, hb.size, fun k hk _ => hb.block k hk⟩ (by simp), h.bel.trans (hb.mono h.le), h.top⟩
theorem grown_chg {W w1 : World} {N : Nat} (h : W.grownBy w1 (some N)) : Chg W.heap.size N W w1 := ⟨h.os, h.tape, h.output, h.size, fun k hk hd => h.block k hk (fun e => hd (by injection e))⟩
theorem vk_put {N K : Nat} {w : World} {l : List Msg} {m : Msg} {W W' : World} (h : VK N K w l W) (hNK : N ≠ K) (hg : W.grownBy W' (some N))
    (ho : W'.ownsMap Try.prog 2 (plainElem Try.prog 2) N (l.length + 1) ((volD l).put (key64 m.price) (.lit (.int .i64 (volP l m.price + m.qty))))) : VK N K w (l ++ [m]) W' :=
  ⟨(grown_chg hg).blk h.box.lt (Ne.symm hNK) h.box, by rw [List.length_append, ← volD_put]; exact ho, h.bel.trans ((grown_chg hg).below' (Nat.le_refl _) h.le), h.top⟩
/-- What Volumes returns. -/
def VolIs (l : List Msg) (w : World) (e : Ending) (w' : World) : Prop := ∃ b, e = .returned (.map (some b)) ∧ w'.ownsMap Try.prog 2 (plainElem Try.prog 2) b l.length (volD l) ∧ w.heap.size ≤ b ∧ Below w.heap.size w w'

set_option maxRecDepth 100000 in
set_option maxHeartbeats 4000000 in
theorem volumes_any (a : Option Addr) (cap : Nat) (ms : List Msg) (sym : Int) (w : World) (hm : MsgRow w a ms) (hl : ms.length ≤ 1000) (hfit : ∀ m ∈ ms, m.tick ≤ 9223372036854775807) :
    Calls Try.prog 32 #[.slice a ms.length cap, .int .i64 sym] w fun e w' => VolIs ((cnt sym ms).map Subtype.val) w e w' := by
  refine of_wide (n := 9) ?_
  refine callsIn_of_wp_marks Try.func32 rfl trivial ?_ rfl
  simp only [Try.ntmps32, List.size_toArray, List.length_cons, List.length_nil, Nat.reduceAdd, Nat.reduceSub, Array.replicate_succ, Array.replicate_zero, List.push_toArray, List.append_toArray, List.nil_append, List.cons_append]
  have hmm := @run_makeMap Try.prog
  have hO1 : (w.alloc (.map #[] 0)).ownsMap Try.prog 2 (plainElem Try.prog 2) w.heap.size 0 (volD []) := World.ownsMap_made _ _ _ _
  have hWs : (w.alloc (.map #[] 0)).heap.size = w.heap.size + 1 := by simp
  have hbx : Below w.heap.size w ((w.alloc (.map #[] 0)).alloc (.cells #[.map (some w.heap.size)] 63)) := ((Below.refl w.heap.size w).alloc (Nat.le_refl _) _).alloc (by simp) _
  have HV := Lib.hid (show VK w.heap.size (w.heap.size + 1) w [] ((w.alloc (.map #[] 0)).alloc (.cells #[.map (some w.heap.size)] 63)) from ⟨Blk.new _ _ _ _ hWs, hO1.alloc _, hbx, Nat.le_refl _⟩)
  have hX : ((w.alloc (.map #[] 0)).alloc (.cells #[.map (some w.heap.size)] 63)).heap.size = w.heap.size + 1 + 1 := by simp
  have HM := Lib.hid (hm.all hbx)
  have HMB := Lib.hid (msg_old hm)
  clear hO1 hWs hm hbx
  gi_wp2_with fail
  change CallsIn _ _ _ _ _ ((w.alloc (.map #[] 0)).alloc (.cells #[.map (some w.heap.size)] 63)) _
  generalize (w.alloc (.map #[] 0)).alloc (.cells #[.map (some w.heap.size)] 63) = X at HV HM hX ⊢
  generalize hKK : w.heap.size + 1 = K at HV hX ⊢
  have HKK := Lib.hid hKK
  have HX := Lib.hid hX
  refine (to_wide (counts_any _ a ms.length cap sym X rfl (K + 1) hX)).mono ?_
  clear hX hKK
  rintro e w2 ⟨rfl, rfl⟩
  gi_wp2_with fail
  have HXs := Lib.hid (Blk.new X #[.slice a ms.length cap] 45 (K + 1) HX.out)
  replace HXs := Lib.hid (HXs.out.old (.cells #[.int .i64 sym] 3))
  have HXy := Lib.hid (Blk.new (X.alloc (.cells #[.slice a ms.length cap] 45)) #[.int .i64 sym] 3 (K + 1 + 1) (by rw [World.size_alloc, HX.out]))
  have HZs := Lib.hid (show ((X.alloc (.cells #[.slice a ms.length cap] 45)).alloc (.cells #[.int .i64 sym] 3)).heap.size = K + 3 by rw [World.size_alloc, World.size_alloc, HX.out])
  have hbz : Below X.heap.size X ((X.alloc (.cells #[.slice a ms.length cap] 45)).alloc (.cells #[.int .i64 sym] 3)) := ((Below.refl _ _).alloc (Nat.le_refl _) _).alloc (by simp) _
  replace HV := Lib.hid (HV.out.below hbz)
  replace HM := Lib.hid (HM.out.all hbz)
  clear hbz
  generalize (X.alloc (.cells #[.slice a ms.length cap] 45)).alloc (.cells #[.int .i64 sym] 3) = Z at HV HM HXs HXy HZs ⊢
  clear HX
  refine wpIn_rangeFunc_ownH (w0 := Z) rfl (by decide) (gf := 113) (lb := #[.pointer (some ⟨K + 1, 0, none⟩), .pointer (some ⟨K + 1 + 1, 0, none⟩)]) rfl trivial (enters_of Try.func113 (by kernel_rfl) rfl)
    (counts_stops 8 (by decide) sym a cap ms hl hfit (K + 1) (K + 1 + 1) (SB w.heap.size K) (fun b off ha hn => Or.inl (HMB.out b off ha hn)) (by simp [SB]) Z (fun b hb => by have := HZs.out; have := HKK.out; unfold SB at hb; omega) HXs.out HXy.out HM.out) kz_t (kz_b (fun b hb => by have := HZs.out; have := HKK.out; unfold SB at hb; omega)) (Below.refl _ _) (fun _ => rfl)
    (fun (pre : List TM) W => VK w.heap.size K w (pre.map Subtype.val) W ∧ KZ (SB w.heap.size K) Z W)
    (fun _ _ _ => False)
    (OwnFrom.and (vk_own _ (by have := HZs.out; have := HKK.out; omega)) (kz_own (Nat.le_refl _) (fun b hb => by have := HZs.out; have := HKK.out; unfold SB at hb; omega)))
    (fun c s W W' row hs _ _ => hs)
    ⟨HV.out, kz_refl _ _⟩
    (fun x a' W => ∃ Bx, Z.heap.size ≤ Bx ∧ Blk W Bx x.1.cells 66 ∧ a' = { tmps := #[.slice a ms.length cap, .int .i64 sym, undef, undef, .map none, .pointer (some ⟨K, 0, none⟩), .pointer (some ⟨Bx, 0, none⟩), .map (some w.heap.size), .slice a ms.length cap, .int .i64 sym, .func (.func 113) #[] #[.pointer (some ⟨K + 1, 0, none⟩), .pointer (some ⟨K + 1 + 1, 0, none⟩)], .agg x.1.cells, undef, undef, undef, undef, undef, undef, undef, undef], defers := [] })
    (fun x a' s W W' row hs hg hr => by obtain ⟨Bx, h1, h2, h3⟩ := hs; exact ⟨Bx, h1, (grownBy_keeps_cells hg (fun r e => (hr r e).2) h2 rfl).trans h2, h3⟩) ?assign ?body ?done ?stop
  case assign =>
    rintro l pre x W K' ⟨hi, hz⟩ hK'
    have HZ := Lib.hid (Blk.new W msgZero 66 W.heap.size rfl)
    have HFIN := Lib.hid (hK' _ _ ((KeepsOthers.alloc W (.cells x.1.cells 66)).from _) (kz_below ((Below.refl W.heap.size W).alloc (Nat.le_refl _) (.cells x.1.cells 66)) (fun b hb => by have := HZs.out; have := HKK.out; have := hz.2; unfold SB at hb; omega))
      ⟨hi.below ((Below.refl W.heap.size W).alloc (Nat.le_refl _) (.cells x.1.cells 66)), kz_t hz (kz_below ((Below.refl W.heap.size W).alloc (Nat.le_refl _) (.cells x.1.cells 66)) (fun b hb => by have := HZs.out; have := HKK.out; have := hz.2; unfold SB at hb; omega))⟩
      ⟨W.heap.size, hz.2, Blk.new W x.1.cells 66 W.heap.size rfl, rfl⟩)
    clear hK' hi hz
    gi_wp2_with (refine storeR_blk l (by rfl) 66 _ _ (by rfl) W.heap.size (by rfl) msgZero x.1.cells 66 HZ.out (by rfl) (by rfl) (by kernel_rfl) (one_msg _) ?_; change wpListIn _ _ _ _ _ _ _ (World.setCells (W.alloc (.cells msgZero 66)) W.heap.size 0 x.1.cells.toList); rw [alloc_setCells W msgZero x.1.cells 66 rfl W.heap.size rfl])
    exact HFIN.out
  case body =>
    rintro l pre x a' W hWl ⟨r, hr⟩ ⟨hv, hkz⟩ ⟨Bx, hBx, bX, rfl⟩ hlen
    obtain ⟨m, hg⟩ := x
    have hn : pre.length ≤ 999 := by have := cnt_len sym ms; omega
    have hgd : ∀ m ∈ pre.map Subtype.val, Good m := fun m hm => by obtain ⟨y, _, rfl⟩ := List.mem_map.1 hm; exact y.2
    have ⟨v0, v1⟩ := vol_in _ hgd m.price
    have hln : (pre.map Subtype.val).length = pre.length := List.length_map _
    have q1 := hg.q1
    have q2 := hg.q2
    have hwf : (Lit.int .i64 m.price).wf = true := WalkArith.wf_i64 (by have := hg.p1; have := hg.p2; omega)
    have HAT := Lib.hid (volD_at (pre.map Subtype.val) m.price)
    have HPUT := fun W' h1 h2 => Lib.hid (vk_put (m := m) hv (by have := HKK.out; omega) h1 h2 : VK w.heap.size K w _ W')
    have HOW := Lib.hid hv.own
    have HKZ := Lib.hid hkz
    have HBX := Lib.hid bX
    have HR := Lib.hid hr
    have ck : W.cell? ⟨K, 0, none⟩ = some (.map (some w.heap.size)) := hv.box.cell 0 rfl
    have c6 : W.cell? ⟨Bx, 6, none⟩ = some (.int .i64 m.price) := HBX.out.cell 6 rfl
    have c7 : W.cell? ⟨Bx, 7, none⟩ = some (.int .i64 m.qty) := HBX.out.cell 7 rfl
    have HL1 := Lib.hid (show (pre.map Subtype.val) ++ [m] = (pre ++ [(⟨m, hg⟩ : TM)]).map Subtype.val by simp)
    have HKEY := Lib.hid (Maps.keyOf_int_mk Try.underlying2 hwf)
    clear hv hkz bX hr hlen hgd hwf
    rw [hln] at v1 HOW HPUT
    clear hln
    generalize hvv : volP (pre.map Subtype.val) m.price = vv at v0 v1 HAT HPUT
    clear hvv
    gi_wp2_with (first
      | (gi_at_lookup; refine wpListIn_lookup_own_int _ rfl _ _ 63 rfl 2 2 .i64 (Maps.int_keyed Try.underlying2) Try.underlying63 Try.underlying2 (zero64 _) w.heap.size pre.length (volD (pre.map Subtype.val)) rfl HOW.out _ _ rfl HKEY.out ?_; intro c hat hwc; obtain rfl : vv = c := by (have h := HAT.out.symm.trans hat; injection h with h; injection h))
      | (gi_at_mapUpdate; refine wpListIn_mapUpdate_own _ rfl _ _ _ 63 rfl 2 2 (Maps.int_keyed Try.underlying2) Try.underlying63 _ w.heap.size pre.length (volD (pre.map Subtype.val)) rfl HOW.out (by unfold maxLen; omega) _ _ _ rfl rfl HKEY.out _ [] (plainElem_int Try.underlying2 (WalkArith.wf_i64 (by omega))) ?_; intro w1 hown1 hgrow1))
    have hp := (HPUT w1 hgrow1 hown1).out
    have HP := Lib.hid hp
    have hc1 := grown_chg hgrow1
    have HZ2 := Lib.hid (kz_chg (S := SB w.heap.size K) hc1 (fun b hb => ⟨Nat.lt_of_lt_of_le (by have := HZs.out; have := HKK.out; unfold SB at hb; omega) HKZ.out.2, by have := HKK.out; unfold SB at hb; omega⟩))
    have HF2 := Lib.hid (kf_chg (B := Z.heap.size) hc1 (by have := HZs.out; have := HKK.out; omega))
    clear hp hc1 HPUT hown1 hgrow1
    gi_wp2
    exact ⟨HF2.out, HZ2.out, by (have h := HP.out; rw [HL1.out] at h; exact h), kz_t HKZ.out HZ2.out⟩
  case done =>
    rintro D xs W hD rfl ⟨hv, hkz⟩ hKd
    have HV := Lib.hid hv
    have HKD := Lib.hid hKd
    have HD := Lib.hid hD
    have ck : W.cell? ⟨K, 0, none⟩ = some (.map (some w.heap.size)) := hv.box.cell 0 rfl
    clear hv hkz hKd hD
    gi_wp2
    refine ⟨by simp, .inl ⟨_, _, rfl, run_takeDeferred HKD.out, ?_⟩⟩
    refine ⟨_, results_tmp rfl _ _ _, ?_⟩
    exact ⟨w.heap.size, rfl, HV.out.own.kept (grownBy_putObj' _ D (.deferred none)) (fun e => by injection e with e; have := HD.out; have := HZs.out; have := HKK.out; omega), Nat.le_refl _, HV.out.bel.trans (belowK_b (w := w) (Nat.le_refl _) _ D _ _ (by have := HD.out; have := HZs.out; have := HKK.out; omega) HKD.out rfl rfl)⟩
  case stop =>
    rintro D c pre W hD hpre h
    exact h.elim
end Go.Proofs.Ytogjgpiddjmpiaa.Tape
