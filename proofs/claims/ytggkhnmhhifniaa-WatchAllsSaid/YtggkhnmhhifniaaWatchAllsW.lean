/- The walk of damperlaw32.WatchAlls: it returns true, and writes nothing that was there. -/
import Derived.Test.YtggkhnmhhifniaaWatchAlls
namespace Go.Proofs.Ytggkhnmhhifniaa.Watch
open Go.RowKit Go.Proofs.Ytggkhnmhhifniaa.Kit Go.Proofs.Ytggkhnmhhifniaa.Blk Go.Proofs.Ytggkhnmhhifniaa.Symbol Go.Proofs.Ytggkhnmhhifniaa.Check
attribute [local go_sem ↓] Go.wp_at_zero Go.wp_at_succ

set_option maxRecDepth 20000 in
set_option maxHeartbeats 2000000 in
theorem alls (c : Cfg) (sa ta : Option Addr) (sc tc : Nat) (a : Option Addr) (cap : Nat) (l : List Msg) (w : World) (hin : c.In w sa ta) (hm : MsgRow w a l) (hs : Seqs l) :
    Calls Try.prog 5 #[.agg (c.cells sa ta sc tc), .slice a l.length cap] w fun e w' => e = .returned (.bool true) ∧ Below w.heap.size w w' := by
  have hb0 : Below w.heap.size w (w.alloc (.cells (c.cells sa ta sc tc) 27)) := (Below.refl _ _).alloc (Nat.le_refl _) _
  have HIN := Lib.hid (hin.below hb0)
  have HB := Lib.hid hb0
  have HX := Lib.hid (Blk.new w (c.cells sa ta sc tc) 27 w.heap.size rfl)
  have HM := Lib.hid (hm.below hb0)
  have HSQ := Lib.hid hs
  clear hin hm hs hb0
  go_enter Try.func5, Try.ntmps5
  go_upto_region 1 with fail
  generalize w.alloc (.cells (c.cells sa ta sc tc) 27) = W at HIN HB HX HM ⊢
  go_wp2_with (refine load_blk rfl 27 _ rfl _ rfl _ _ HX.out _ Try.underlying27 rfl (by kernel_rfl) ?_)
  refine (light_any c sa ta sc tc a cap l _ HM.out).mono ?_
  rintro e w1 ⟨⟨b, rfl, hlen⟩, hb1⟩
  replace HIN := Lib.hid (HIN.out.below hb1)
  replace HX := Lib.hid (HX.out.below hb1 HX.out.lt)
  replace HM := Lib.hid (HM.out.below hb1)
  replace HB := Lib.hid (HB.out.trans (hb1.mono HB.out.size))
  clear hb1
  have HLEN := Lib.hid hlen
  clear hlen
  cases b with
  | false =>
    go_wp2_with fail
    refine (alive _).mono ?_
    rintro e w2 ⟨rfl, hb2⟩
    replace HB := Lib.hid (HB.out.trans (hb2.mono HB.out.size))
    clear hb2
    go_wp2
    go_ret
    exact ⟨rfl, HB.out⟩
  | true =>
    have hl := HLEN.out rfl
    go_wp2_with (refine load_blk rfl 27 _ rfl _ rfl _ _ HX.out _ Try.underlying27 rfl (by kernel_rfl) ?_)
    refine (wall_any c sa ta sc tc a cap l _ HIN.out HM.out hl HSQ.out).mono ?_
    rintro e w2 ⟨rfl, hb2⟩
    replace HIN := Lib.hid (HIN.out.below hb2)
    replace HX := Lib.hid (HX.out.below hb2 HX.out.lt)
    replace HM := Lib.hid (HM.out.below hb2)
    replace HB := Lib.hid (HB.out.trans (hb2.mono HB.out.size))
    clear hb2
    go_wp2_with (refine load_blk rfl 27 _ rfl _ rfl _ _ HX.out _ Try.underlying27 rfl (by kernel_rfl) ?_)
    refine (rall_any c sa ta sc tc a cap l _ HIN.out HM.out hl HSQ.out).mono ?_
    rintro e w3 ⟨rfl, hb3⟩
    replace HB := Lib.hid (HB.out.trans (hb3.mono HB.out.size))
    clear hb3
    generalize (allF c l).1 = x
    generalize (allF c l).2 = y
    go_wp2_with fail
    refine (alive _).mono ?_
    rintro e w4 ⟨rfl, hb4⟩
    replace HB := Lib.hid (HB.out.trans (hb4.mono HB.out.size))
    clear hb4
    go_wp2
    go_ret
    exact ⟨rfl, HB.out⟩
end Go.Proofs.Ytggkhnmhhifniaa.Watch
