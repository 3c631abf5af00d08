/- watch.All and the document's All: the first fault of any messages. -/
import Derived.Test.YtggkhnmhhifniaaWatchRNew
import Derived.Test.YtggkhnmhhifniaaWatchEq
import Derived.Test.YtggkhnmhhifniaaLight32
namespace Go.Proofs.Ytggkhnmhhifniaa.Watch
open Go.RowKit Go.Proofs.Ytggkhnmhhifniaa.Kit Go.Proofs.Ytggkhnmhhifniaa.Blk Go.Proofs.Ytggkhnmhhifniaa.Symbol Go.Proofs.Ytggkhnmhhifniaa.Check
attribute [local go_sem ↓] Go.wp_at_zero Go.wp_at_succ

theorem runF_yes (sy : List Sym) (l : List Msg) (k : Nat) (h : k < l.length) (ks : List Kn) (seq tick : Int) (hf : faultF ks seq tick (kOf ks l[k].sym) l[k] = 0) :
    runF sy k (l.drop k) ks seq tick = runF sy (k + 1) (l.drop (k + 1)) (tellAll sy ks l[k]) l[k].seq l[k].tick := by
  rw [List.drop_eq_getElem_cons h, runF, if_pos hf]
theorem runF_no (sy : List Sym) (l : List Msg) (k : Nat) (h : k < l.length) (ks : List Kn) (seq tick : Int) (hf : faultF ks seq tick (kOf ks l[k].sym) l[k] ≠ 0) :
    runF sy k (l.drop k) ks seq tick = ((k : Int), faultF ks seq tick (kOf ks l[k].sym) l[k]) := by
  rw [List.drop_eq_getElem_cons h, runF, if_neg hf]
theorem runF_end (sy : List Sym) (l : List Msg) (ks : List Kn) (seq tick : Int) : runF sy l.length (l.drop l.length) ks seq tick = ((l.length : Int), 0) := by
  rw [List.drop_length]; rfl
theorem tell_length (sy : List Sym) (ks : List Kn) (m : Msg) : (tellAll sy ks m).length = ks.length := by
  unfold tellAll levelF
  split
  · split <;> simp
  · split <;> simp

def Msg.zero : Msg := ⟨0, 0, 0, 0, 0, 0, 0, 0, 0⟩
def allF (c : Cfg) (l : List Msg) : Int × Int := if (checkF c).1 = 0 then runF c.syms 0 l (c.syms.map fun _ => Kn.zero) 0 0 else (-1, (checkF c).1)

/-- Messages' numbers are of 64 bits. -/
def Seqs (l : List Msg) : Prop := ∀ i, (h : i < l.length) → -9223372036854775808 ≤ l[i].seq ∧ l[i].seq ≤ 9223372036854775807

theorem msgRow_at {w : World} {a : Option Addr} {l : List Msg} (h : MsgRow w a l) (k : Nat) (hk : k < l.length) : ∃ b off, a = some ⟨b, off, none⟩ ∧ b < w.heap.size ∧ w.rangeAt b (off + k * 9) l[k].cells.toList := by
  obtain ⟨b, off, ha, hl, hc⟩ := h k hk
  exact ⟨b, off, ha, hl, fun j v hv => hc j v (by simpa using hv)⟩

set_option maxRecDepth 20000 in
set_option maxHeartbeats 4000000 in
theorem rall_any (c : Cfg) (sa ta : Option Addr) (sc tc : Nat) (a : Option Addr) (cap : Nat) (l : List Msg) (w : World) (hin : c.In w sa ta) (hm : MsgRow w a l) (hl : l.length ≤ 120) (hs : Seqs l) :
    Calls Try.prog 19 #[.agg (c.cells sa ta sc tc), .slice a l.length cap] w fun e w' => e = .returned (.tuple #[.int .i64 (allF c l).1, .int .i64 (allF c l).2]) ∧ Below w.heap.size w w' := by
  have HIN := Lib.hid (hin.below ((Below.refl _ _).alloc (Nat.le_refl _) (.cells (c.cells sa ta sc tc) 27)))
  have HB := Lib.hid (show Below w.heap.size w (w.alloc (.cells (c.cells sa ta sc tc) 27)) from (Below.refl _ _).alloc (Nat.le_refl _) _)
  have HX := Lib.hid (Blk.new w (c.cells sa ta sc tc) 27 w.heap.size rfl)
  have HM := Lib.hid hm
  have HSQ := Lib.hid hs
  clear hin hm hs
  go_enter Try.func19, Try.ntmps19
  go_upto_region 1 with fail
  generalize w.alloc (.cells (c.cells sa ta sc tc) 27) = W at HIN HB HX ⊢
  go_wp2_with (refine load_blk rfl 27 _ rfl _ rfl _ _ HX.out _ Try.underlying27 rfl (by kernel_rfl) ?_)
  refine (rnew_any c sa ta sc tc _ HIN.out).mono ?_
  rintro e w1 ⟨hb1, hmade⟩
  have HB1 := Lib.hid (HB.out.trans (hb1.mono HB.out.size))
  have hWz := HB.out.size
  clear hb1
  rcases hmade with ⟨h0, Q, M, rc, rfl, hQ, hM, hp⟩ | ⟨h0, rfl⟩
  · have HA := Lib.hid (show allF c l = runF c.syms 0 l (c.syms.map fun _ => Kn.zero) 0 0 by unfold allF; rw [if_pos h0])
    have HP := Lib.hid hp
    clear h0 hp
    go_wp2_with fail
    go_loopw [8] (fun i wr => ∃ (k : Nat) (ks : List Kn) (seq tick : Int), k ≤ l.length ∧ i = .int .i64 k ∧ RW wr Q M rc c sa ta sc tc ks seq tick ∧ 0 ≤ seq ∧ seq ≤ k ∧ Below w.heap.size w wr ∧ runF c.syms k (l.drop k) ks seq tick = allF c l) (fun i _ => l.length - (intOf i).toNat)
    case atStart => exact ⟨0, _, 0, 0, by omega, rfl, HP.out, by omega, by omega, HB1.out, by rw [HA.out, List.drop_zero]⟩
    case round =>
      clear HP HB1 HA
      obtain ⟨k, ks, seq, tick, hk, rfl, hp, hs0, hs1, hb, hr⟩ := hrel
      have HR := Lib.hid hr
      have HP := Lib.hid hp
      have HB := Lib.hid hb
      clear hr hp hb
      by_cases hlt : k < l.length
      · obtain ⟨b, off, rfl, hbl, hrow⟩ := msgRow_at HM.out k hlt
        have hrow2 : wr.rangeAt b (off + k * 9) l[k].cells.toList := fun j v hv => by rw [HB.out.cell (p := ⟨b, _, none⟩) hbl]; exact hrow j v hv
        have HF := Lib.hid (fault_eq ks seq tick l[k] hs0 (by omega) (HSQ.out k hlt).1 (HSQ.out k hlt).2)
        have HY := Lib.hid (runF_yes c.syms l k hlt ks seq tick)
        have HN := Lib.hid (runF_no c.syms l k hlt ks seq tick)
        have HQ := Lib.hid (fault_seq ks seq tick (kOf ks l[k].sym) l[k] hs0 (by omega))
        generalize l[k] = m at hrow2 HF HY HN HQ
        have g0 : (0 : Int) ≤ (k : Int) := by omega
        have g1 : (k : Int) < (l.length : Int) := by omega
        clear hrow
        go_wp2_with (refine wpList_load_mid rfl 40 _ rfl _ _ rfl _ _ hrow2 Try.underlying40 rfl (by kernel_rfl) ?_)
        refine (rput_any Q M rc c sa ta sc tc ks seq tick m _ HP.out).mono ?_
        rintro e w2 ⟨rfl, hc2, hp2⟩
        rw [HF.out] at hp2 ⊢
        have HB2 := Lib.hid (HB.out.trans ⟨hc2.os, hc2.tape, hc2.output, hc2.size, fun j hj => hc2.block j (by have := HB.out.size; omega) (by omega) (by omega)⟩)
        clear hc2 hrow2
        by_cases hf : faultF ks seq tick (kOf ks m.sym) m = 0
        · rw [if_pos hf] at hp2
          have HP2 := Lib.hid hp2
          have HR2 := Lib.hid ((HY.out hf).symm.trans HR.out)
          have hsq := HQ.out hf
          have HSQ2 := Lib.hid hsq
          rw [hf]
          clear hp2 hf hsq
          go_wp2
          go_roundw
          case rel => exact ⟨k + 1, _, _, _, by omega, by go_num, HP2.out, by have := HSQ2.out; omega, by have := HSQ2.out; omega, HB2.out, HR2.out⟩
          case measure => simp [intOf]; omega
        · have HR2 := Lib.hid ((HN.out hf).symm.trans HR.out)
          have b0 : (faultF ks seq tick (kOf ks m.sym) m != 0) = true := bne_iff_ne.2 hf
          clear hf hp2
          generalize faultF ks seq tick (kOf ks m.sym) m = f at HR2 b0 ⊢
          go_wp2
          go_ret2
          exact ⟨by rw [← HR2.out]; rfl, HB2.out⟩
      · have hkl : k = l.length := by omega
        have HR2 := Lib.hid (show allF c l = ((l.length : Int), 0) by rw [← HR.out, hkl, runF_end])
        have g1 : (l.length : Int) ≤ (k : Int) := by omega
        clear hkl
        go_wp2
        go_ret2
        exact ⟨by rw [HR2.out]; rfl, HB.out⟩
  · have HA := Lib.hid (show allF c l = (-1, (checkF c).1) by unfold allF; rw [if_neg h0])
    have b0 : ((checkF c).1 != 0) = true := bne_iff_ne.2 h0
    clear h0
    generalize (checkF c).1 = f at HA b0 ⊢
    go_wp2
    go_ret2
    exact ⟨by rw [HA.out]; rfl, HB1.out⟩
set_option maxRecDepth 20000 in
set_option maxHeartbeats 4000000 in
theorem wall_any (c : Cfg) (sa ta : Option Addr) (sc tc : Nat) (a : Option Addr) (cap : Nat) (l : List Msg) (w : World) (hin : c.In w sa ta) (hm : MsgRow w a l) (hl : l.length ≤ 120) (hs : Seqs l) :
    Calls Try.prog 18 #[.agg (c.cells sa ta sc tc), .slice a l.length cap] w fun e w' => e = .returned (.tuple #[.int .i64 (allF c l).1, .int .i64 (allF c l).2]) ∧ Below w.heap.size w w' := by
  have HIN := Lib.hid (hin.below ((Below.refl _ _).alloc (Nat.le_refl _) (.cells (c.cells sa ta sc tc) 27)))
  have HB := Lib.hid (show Below w.heap.size w (w.alloc (.cells (c.cells sa ta sc tc) 27)) from (Below.refl _ _).alloc (Nat.le_refl _) _)
  have HX := Lib.hid (Blk.new w (c.cells sa ta sc tc) 27 w.heap.size rfl)
  have HM := Lib.hid hm
  have HSQ := Lib.hid hs
  clear hin hm hs
  go_enter Try.func18, Try.ntmps18
  go_upto_region 1 with fail
  generalize w.alloc (.cells (c.cells sa ta sc tc) 27) = W at HIN HB HX ⊢
  go_wp2_with (refine load_blk rfl 27 _ rfl _ rfl _ _ HX.out _ Try.underlying27 rfl (by kernel_rfl) ?_)
  refine (new_any c sa ta sc tc _ HIN.out).mono ?_
  rintro e w1 ⟨hb1, hmade⟩
  have HB1 := Lib.hid (HB.out.trans (hb1.mono HB.out.size))
  have hWz := HB.out.size
  clear hb1
  rcases hmade with ⟨h0, P, L, rc, rfl, hP, hL, hp⟩ | ⟨h0, rfl⟩
  · have HA := Lib.hid (show allF c l = runF c.syms 0 l (c.syms.map fun _ => Kn.zero) 0 0 by unfold allF; rw [if_pos h0])
    have HP := Lib.hid hp
    clear h0 hp
    go_wp2_with fail
    go_loopw [24] (fun i wr => ∃ (k : Nat) (ks : List Kn) (seq tick : Int), k ≤ l.length ∧ i = .int .i64 k ∧ PW wr P L rc c.syms ks seq tick ∧ 0 ≤ seq ∧ seq ≤ k ∧ Below w.heap.size w wr ∧ runF c.syms k (l.drop k) ks seq tick = allF c l) (fun i _ => l.length - (intOf i).toNat)
    case atStart => exact ⟨0, _, 0, 0, by omega, rfl, HP.out, by omega, by omega, HB1.out, by rw [HA.out, List.drop_zero]⟩
    case round =>
      clear HP HB1 HA
      obtain ⟨k, ks, seq, tick, hk, rfl, hp, hs0, hs1, hb, hr⟩ := hrel
      have HR := Lib.hid hr
      have HP := Lib.hid hp
      have HB := Lib.hid hb
      clear hr hp hb
      by_cases hlt : k < l.length
      · obtain ⟨b, off, rfl, hbl, hrow⟩ := msgRow_at HM.out k hlt
        have hrow2 : wr.rangeAt b (off + k * 9) l[k].cells.toList := fun j v hv => by rw [HB.out.cell (p := ⟨b, _, none⟩) hbl]; exact hrow j v hv
        have HY := Lib.hid (runF_yes c.syms l k hlt ks seq tick)
        have HN := Lib.hid (runF_no c.syms l k hlt ks seq tick)
        have HQ := Lib.hid (fault_seq ks seq tick (kOf ks l[k].sym) l[k] hs0 (by omega))
        generalize l[k] = m at hrow2 HY HN HQ
        have g0 : (0 : Int) ≤ (k : Int) := by omega
        have g1 : (k : Int) < (l.length : Int) := by omega
        clear hrow
        go_upto_region 8 with (first | (refine wpList_load_mid rfl 40 _ rfl _ _ rfl _ _ hrow2 Try.underlying40 rfl (by kernel_rfl) ?_) | (refine store_blk rfl 40 _ _ rfl wr.heap.size rfl Msg.zero.cells m.cells 40 (Blk.new _ _ _ _ rfl) rfl rfl (by kernel_rfl) (by simp [Msg.cells, Value.oneCell']) ?_))
        have hx := (Blk.new wr Msg.zero.cells 40 wr.heap.size rfl).setCells m.cells rfl
        have hb' : Below wr.heap.size wr (World.setCells (wr.alloc (.cells Msg.zero.cells 40)) wr.heap.size 0 m.cells.toList) := Blk.Below.setCells _ _ _ ((Below.refl _ _).alloc (Nat.le_refl _) _) (Nat.le_refl _)
        change Code.wp _ _ _ _ (World.setCells (wr.alloc (.cells Msg.zero.cells 40)) wr.heap.size 0 m.cells.toList)
        generalize World.setCells (wr.alloc (.cells Msg.zero.cells 40)) wr.heap.size 0 m.cells.toList = w3 at hx hb' ⊢
        replace HP := Lib.hid (HP.out.below hb')
        replace HB := Lib.hid (HB.out.trans (hb'.mono HB.out.size))
        have HX3 := Lib.hid hx
        clear hb' hx hrow2
        go_wp2_with (refine load_blk rfl 40 _ rfl _ rfl _ _ HX3.out _ Try.underlying40 rfl (by kernel_rfl) ?_)
        refine (put_any P L rc c.syms ks seq tick m _ HP.out).mono ?_
        rintro e w2 ⟨rfl, hc2, hp2⟩
        have HB2 := Lib.hid (HB.out.trans ⟨hc2.os, hc2.tape, hc2.output, hc2.size, fun j hj => hc2.block j (by have := HB.out.size; omega) (by omega) (by omega)⟩)
        clear hc2
        by_cases hf : faultF ks seq tick (kOf ks m.sym) m = 0
        · rw [if_pos hf] at hp2
          have HP2 := Lib.hid hp2
          have HR2 := Lib.hid ((HY.out hf).symm.trans HR.out)
          have hsq := HQ.out hf
          have HSQ2 := Lib.hid hsq
          rw [hf]
          clear hp2 hf hsq
          go_wp2
          go_roundw
          case rel => exact ⟨k + 1, _, _, _, by omega, by go_num, HP2.out, by have := HSQ2.out; omega, by have := HSQ2.out; omega, HB2.out, HR2.out⟩
          case measure => simp [intOf]; omega
        · have HR2 := Lib.hid ((HN.out hf).symm.trans HR.out)
          have b0 : (faultF ks seq tick (kOf ks m.sym) m != 0) = true := bne_iff_ne.2 hf
          clear hf hp2
          generalize faultF ks seq tick (kOf ks m.sym) m = f at HR2 b0 ⊢
          go_wp2
          go_ret2
          exact ⟨by rw [← HR2.out]; rfl, HB2.out⟩
      · have hkl : k = l.length := by omega
        have HR2 := Lib.hid (show allF c l = ((l.length : Int), 0) by rw [← HR.out, hkl, runF_end])
        have g1 : (l.length : Int) ≤ (k : Int) := by omega
        clear hkl
        go_wp2
        go_ret2
        exact ⟨by rw [HR2.out]; rfl, HB.out⟩
  · have HA := Lib.hid (show allF c l = (-1, (checkF c).1) by unfold allF; rw [if_neg h0])
    have b0 : ((checkF c).1 != 0) = true := bne_iff_ne.2 h0
    clear h0
    generalize (checkF c).1 = f at HA b0 ⊢
    go_wp2
    go_ret2
    exact ⟨by rw [HA.out]; rfl, HB1.out⟩
end Go.Proofs.Ytggkhnmhhifniaa.Watch
