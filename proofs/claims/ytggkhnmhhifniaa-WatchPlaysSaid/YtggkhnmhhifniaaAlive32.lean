/- damperlaw32.alive returns true, and leaves what was there as it was. -/
import Derived.Test.YtggkhnmhhifniaaWatchNew
import Derived.Test.YtggkhnmhhifniaaPlain
namespace Go.Proofs.Ytggkhnmhhifniaa.Watch
open Go.RowKit Go.Proofs.Ytggkhnmhhifniaa.Kit Go.Proofs.Ytggkhnmhhifniaa.Blk Go.Proofs.Ytggkhnmhhifniaa.Symbol Go.Proofs.Ytggkhnmhhifniaa.Check Go.Proofs.Ytggkhnmhhifniaa.Plain
attribute [local go_sem ↓] Go.wp_at_zero Go.wp_at_succ

def plainS : Sym := ⟨5, 1000, 2000, 500, 20, 100, 3, 10, 5, 2, 500, 500, 1, 40, 12, 1000⟩
def plainC : Cfg := ⟨[plainS], [(5, 1), (10, 2), (500, 0)], 10000, 700, 1300, 2000, 15, 30⟩
theorem plainC_ok : checkF plainC = (0, 0) := by decide +kernel
def msg1 : Msg := ⟨6, 0, 1, 3, 0, 0, 0, 0, 3⟩
def msg2 : Msg := ⟨3, 0, 2, 3, 0, 0, 1000, 1, 1⟩
theorem fault1 : faultF [Kn.zero] 0 0 (kOf [Kn.zero] msg1.sym) msg1 = 0 := by decide +kernel
theorem ks1_eq : tellAll [plainS] [Kn.zero] msg1 = [⟨3, 0, 0, 0, 0, 28, 0, 0, 0, 0⟩] := by kernel_rfl
theorem fault2 : faultF [⟨3, 0, 0, 0, 0, 28, 0, 0, 0, 0⟩] 1 3 (kOf [⟨3, 0, 0, 0, 0, 28, 0, 0, 0, 0⟩] msg2.sym) msg2 = 10 := by decide +kernel
theorem known1 : (knF [⟨3, 0, 0, 0, 0, 28, 0, 0, 0, 0⟩] 0).phase = 3 := by kernel_rfl
theorem known2 : (knF [⟨3, 0, 0, 0, 0, 28, 0, 0, 0, 0⟩] 0).deadline = 28 := by kernel_rfl
theorem alive (w : World) : Calls Try.prog 8 #[] w fun e w' => e = .returned (.bool true) ∧ Below w.heap.size w w' := by
  go_enter Try.func8, Try.ntmps8
  go_wp2_with fail
  refine (plain1 w).mono ?_
  rintro e w1 ⟨g, cap, h, rfl, hg, hh, hg1, hh1, hb1, hsy, htab⟩
  go_wp2_with fail
  have hin : plainC.In w1 (some ⟨g, 0, none⟩) (some ⟨h, 0, none⟩) := by
    refine ⟨?_, ?_, by decide, by decide⟩
    · intro i hi
      have : i = 0 := by simp [plainC] at hi; omega
      subst this
      exact ⟨g, 0, rfl, hg1, fun j v hv => by simpa using hsy j v hv⟩
    · intro i hi
      have : i = 0 ∨ i = 1 ∨ i = 2 := by simp [plainC] at hi; omega
      rcases this with rfl | rfl | rfl <;> exact ⟨h, 0, rfl, hh1, htab _ _ rfl, htab _ _ rfl⟩
  refine (new_any plainC (some ⟨g, 0, none⟩) (some ⟨h, 0, none⟩) cap 3 w1 hin).mono ?_
  rintro e w2 ⟨hb2, hmade⟩
  rcases hmade with ⟨-, P, L, lc, rfl, hP, hL, hp⟩ | ⟨hbad, -⟩
  · have hb := hb1.trans (hb2.mono hb1.size)
    have hb1z := Lib.hid hb1.size
    clear hsy htab hb1 hb2 hg1 hh1 hin
    go_wp2_with fail
    refine (put_any P L lc [plainS] [Kn.zero] 0 0 msg1 _ hp).mono ?_
    rintro e w3 ⟨rfl, hc3, hp3⟩
    rw [if_pos fault1, ks1_eq] at hp3
    rw [fault1]
    have hp3 : PW w3 P L lc [plainS] [⟨3, 0, 0, 0, 0, 28, 0, 0, 0, 0⟩] 1 3 := hp3
    have hb3 : Below w.heap.size w w3 := hb.trans ⟨hc3.os, hc3.tape, hc3.output, hc3.size, fun j hj => hc3.block j (by have := hb.size; omega) (by have := hb1z.out; omega) (by have := hb1z.out; omega)⟩
    clear hc3 hp
    go_wp2_with fail
    refine (put_any P L lc [plainS] [⟨3, 0, 0, 0, 0, 28, 0, 0, 0, 0⟩] 1 3 msg2 _ hp3).mono ?_
    rintro e w4 ⟨rfl, hc4, hp4⟩
    rw [if_neg (by rw [fault2]; decide)] at hp4
    rw [fault2]
    have hb4 : Below w.heap.size w w4 := hb3.trans ⟨hc4.os, hc4.tape, hc4.output, hc4.size, fun j hj => hc4.block j (by have := hb3.size; omega) (by have := hb1z.out; omega) (by have := hb1z.out; omega)⟩
    clear hc4 hp3
    have HP5 := Lib.hid hp4
    have HB4 := Lib.hid hb4
    clear hb3 hb4 hb hp4 hP hL hg hh
    go_wp2_with fail
    refine (phase_any P L lc [plainS] [⟨3, 0, 0, 0, 0, 28, 0, 0, 0, 0⟩] 1 3 0 _ HP5.out).mono ?_
    rintro e w5 ⟨rfl, rfl⟩
    rw [known1]
    go_wp2_with fail
    refine (deadline_any P L lc [plainS] [⟨3, 0, 0, 0, 0, 28, 0, 0, 0, 0⟩] 1 3 0 _ HP5.out).mono ?_
    rintro e w5 ⟨rfl, rfl⟩
    rw [known2]
    go_wp2
    go_ret
    exact ⟨rfl, HB4.out⟩
  · rw [plainC_ok] at hbad
    exact absurd rfl hbad
end Go.Proofs.Ytggkhnmhhifniaa.Watch
