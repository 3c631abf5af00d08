/- damperref07.Check: its walk. -/
import Derived.Test.YtggkhnmhhifniaaRefCheck
namespace Go.Proofs.Ytggkhnmhhifniaa.RefCheck
open Go.RowKit Go.Proofs.Ytggkhnmhhifniaa.Kit Go.Proofs.Ytggkhnmhhifniaa.All Go.Proofs.Ytggkhnmhhifniaa.Symbol Go.Proofs.Ytggkhnmhhifniaa.Table Go.Proofs.Ytggkhnmhhifniaa.Check Go.Proofs.Ytggkhnmhhifniaa.RefSymbol

theorem in_quiet (n lo hi : Int) (w : World) : Calls Try.prog 56 #[.int .i64 n, .int .i64 lo, .int .i64 hi] w fun e w' => e = .returned (.bool (inR lo hi n)) ∧ w' = w :=
  (in_any n lo hi w).mono fun _ _ ⟨h, h'⟩ => ⟨h, h'.symm⟩

set_option maxRecDepth 100000 in
set_option maxHeartbeats 8000000 in
theorem check_ref (c : Cfg) (sa ta : Option Addr) (sc tc : Nat) (w : World) (hin : c.In w sa ta) :
    Calls Try.prog 29 #[.agg (c.cells sa ta sc tc)] w fun e w' => e = .returned (.tuple #[.int .i64 (rcheckF c).1, .int .i64 (rcheckF c).2]) ∧ Below w.heap.size w w' := by
  obtain ⟨hsy, htb, hns, hnt⟩ := hin
  have hns' := hns
  have hnt' := hnt
  unfold maxLen at hns' hnt'
  have hbx := Lib.hid (show ∀ w' : World, Below (w.heap.size + 1) (w.alloc (.cells (c.cells sa ta sc tc) 27)) w' → CfgBox w' w.heap.size c from fun w' hb =>
    CfgBox.below ⟨cell_new _ _ _ _ _ _ rfl rfl, cell_new _ _ _ _ _ _ rfl rfl, cell_new _ _ _ _ _ _ rfl rfl, cell_new _ _ _ _ _ _ rfl rfl, cell_new _ _ _ _ _ _ rfl rfl, cell_new _ _ _ _ _ _ rfl rfl⟩ (by simp) (hb.mono (by simp)))
  have hsl := Lib.hid (show ∀ w' : World, Below (w.heap.size + 1) (w.alloc (.cells (c.cells sa ta sc tc) 27)) w' → w'.cell? ⟨w.heap.size, 0, none⟩ = some (.slice sa c.syms.length sc) ∧ w'.cell? ⟨w.heap.size, 1, none⟩ = some (.slice ta c.tab.length tc) from fun w' hb => by
    rw [hb.cell (p := ⟨w.heap.size, 0, none⟩) (by simp), hb.cell (p := ⟨w.heap.size, 1, none⟩) (by simp)]
    exact ⟨cell_new _ _ _ _ _ _ rfl rfl, cell_new _ _ _ _ _ _ rfl rfl⟩)
  have hba := Lib.hid (show Below w.heap.size w (w.alloc (.cells (c.cells sa ta sc tc) 27)) from (Below.refl _ _).alloc (Nat.le_refl _) _)
  have hbz := Lib.hid (show (w.alloc (.cells (c.cells sa ta sc tc) 27)).heap.size = w.heap.size + 1 by simp)
  unfold Cfg.cells at *
  by_cases hlow : (c.syms.length : Int) < 1
  · have HS := Lib.hid (check_none c (by simp [few, hlow]))
    go_enter Try.func29, Try.ntmps29
    go_wp2_with fail
    go_ret2
    exact ⟨ret_two HS.out, hba.out⟩
  by_cases hhigh : (8 : Int) < (c.syms.length : Int)
  · have HS := Lib.hid (check_none c (by simp [few, hhigh]))
    go_enter Try.func29, Try.ntmps29
    go_wp2_with fail
    go_ret2
    exact ⟨ret_two HS.out, hba.out⟩
  have HL : Hid (few 1 8 (c.syms.length : Int) = true) := Lib.hid (by simp [few, hlow, hhigh])
  have hlow' : (1 : Int) ≤ (c.syms.length : Int) := by omega
  have hhigh' : (c.syms.length : Int) ≤ 8 := by omega
  clear hlow hhigh
  go_enter Try.func29, Try.ntmps29
  go_wp2_with fail
  generalize hW : w.alloc (Obj.cells #[Value.slice sa c.syms.length sc, Value.slice ta c.tab.length tc, Value.int IntKind.i64 c.index, Value.int IntKind.i64 c.f0, Value.int IntKind.i64 c.f1, Value.int IntKind.i64 c.f2, Value.int IntKind.i64 c.h0, Value.int IntKind.i64 c.h1] 27) = W at hbx hsl hba hbz ⊢
  clear hW
  go_loopw [4] (fun i wr => ∃ k : Nat, k ≤ c.syms.length ∧ i = .int .i64 k ∧ Below (w.heap.size + 1) W wr ∧ rsymsF (c.syms.drop k) k = rsymsF c.syms 0) (fun i _ => c.syms.length - (intOf i).toNat)
  case atStart => exact ⟨0, by omega, rfl, Below.refl _ _, rfl⟩
  case round =>
    obtain ⟨k, hk, rfl, hb, hf⟩ := hrel
    have HF := Lib.hid hf
    clear hf
    have hwr : w.heap.size + 1 ≤ wr.heap.size := by have := hb.size; rw [hbz.out] at this; exact this
    have hbw := hba.out.trans (hb.mono (Nat.le_succ _))
    obtain ⟨e0, e1⟩ := hsl.out wr hb
    by_cases hlt : k < c.syms.length
    · obtain ⟨b, off, rfl, hbl, hc⟩ := hsy k hlt
      have HM := Lib.hid (syms_miss c.syms k hlt)
      have HH := Lib.hid (syms_hit c.syms k hlt)
      generalize c.syms[k] = s at hc HM HH
      have g0 : wr.cell? ⟨b, off + k * 16, none⟩ = some (.int .i64 s.grid) := by rw [hbw.cell (p := ⟨b, _, none⟩) hbl]; exact hc 0 _ rfl
      have g1 : wr.cell? ⟨b, off + k * 16 + 1, none⟩ = some (.int .i64 s.ref) := by rw [hbw.cell (p := ⟨b, _, none⟩) hbl]; exact hc 1 _ rfl
      have g2 : wr.cell? ⟨b, off + k * 16 + 2, none⟩ = some (.int .i64 s.static) := by rw [hbw.cell (p := ⟨b, _, none⟩) hbl]; exact hc 2 _ rfl
      have g3 : wr.cell? ⟨b, off + k * 16 + 3, none⟩ = some (.int .i64 s.dynamic) := by rw [hbw.cell (p := ⟨b, _, none⟩) hbl]; exact hc 3 _ rfl
      have g4 : wr.cell? ⟨b, off + k * 16 + 4, none⟩ = some (.int .i64 s.window) := by rw [hbw.cell (p := ⟨b, _, none⟩) hbl]; exact hc 4 _ rfl
      have g5 : wr.cell? ⟨b, off + k * 16 + 5, none⟩ = some (.int .i64 s.move) := by rw [hbw.cell (p := ⟨b, _, none⟩) hbl]; exact hc 5 _ rfl
      have g6 : wr.cell? ⟨b, off + k * 16 + 6, none⟩ = some (.int .i64 s.limit) := by rw [hbw.cell (p := ⟨b, _, none⟩) hbl]; exact hc 6 _ rfl
      have g7 : wr.cell? ⟨b, off + k * 16 + 7, none⟩ = some (.int .i64 s.pause) := by rw [hbw.cell (p := ⟨b, _, none⟩) hbl]; exact hc 7 _ rfl
      have g8 : wr.cell? ⟨b, off + k * 16 + 8, none⟩ = some (.int .i64 s.ext) := by rw [hbw.cell (p := ⟨b, _, none⟩) hbl]; exact hc 8 _ rfl
      have g9 : wr.cell? ⟨b, off + k * 16 + 9, none⟩ = some (.int .i64 s.maxExt) := by rw [hbw.cell (p := ⟨b, _, none⟩) hbl]; exact hc 9 _ rfl
      have g10 : wr.cell? ⟨b, off + k * 16 + 10, none⟩ = some (.int .i64 s.collar) := by rw [hbw.cell (p := ⟨b, _, none⟩) hbl]; exact hc 10 _ rfl
      have g11 : wr.cell? ⟨b, off + k * 16 + 11, none⟩ = some (.int .i64 s.widen) := by rw [hbw.cell (p := ⟨b, _, none⟩) hbl]; exact hc 11 _ rfl
      have g12 : wr.cell? ⟨b, off + k * 16 + 12, none⟩ = some (.int .i64 s.self) := by rw [hbw.cell (p := ⟨b, _, none⟩) hbl]; exact hc 12 _ rfl
      have g13 : wr.cell? ⟨b, off + k * 16 + 13, none⟩ = some (.int .i64 s.slots) := by rw [hbw.cell (p := ⟨b, _, none⟩) hbl]; exact hc 13 _ rfl
      have g14 : wr.cell? ⟨b, off + k * 16 + 14, none⟩ = some (.int .i64 s.levels) := by rw [hbw.cell (p := ⟨b, _, none⟩) hbl]; exact hc 14 _ rfl
      have g15 : wr.cell? ⟨b, off + k * 16 + 15, none⟩ = some (.int .i64 s.short) := by rw [hbw.cell (p := ⟨b, _, none⟩) hbl]; exact hc 15 _ rfl
      clear hc hsy htb e1
      go_wp2_with fail
      refine (symbol_ref s _).mono ?_
      rintro e w1 ⟨rfl, rfl⟩
      have hb' : Below (w.heap.size + 1) W (wr.alloc (.cells s.cells 73)) := hb.alloc hwr _
      have hcs : wr.heap.size < (wr.alloc (.cells s.cells 73)).heap.size := by simp
      clear g0 g1 g2 g3 g4 g5 g6 g7 g8 g9 g10 g11 g12 g13 g14 g15 e0
      generalize wr.alloc (.cells s.cells 73) = w1 at hb' hcs ⊢
      by_cases hp : refSym s = 0
      · have HX := Lib.hid (HM.out hp)
        have hp' : (refSym s != 0) = false := by simp [hp]
        clear hp
        go_wp2
        go_roundw
        case rel => exact ⟨k + 1, by omega, by go_num, hb', by rw [← HX.out, HF.out]⟩
        case measure => simp [intOf]; omega
      · have HX := Lib.hid (HH.out hp)
        have hp' : (refSym s != 0) = true := by simp [hp]
        have HP := Lib.hid hp
        clear hp
        go_wp2
        go_ret2
        exact ⟨ret_two (by rw [check_sym c HL.out (by rw [← HF.out, HX.out]; exact HP.out), ← HF.out, HX.out]), hba.out.trans (hb'.mono (by omega))⟩
    · have HZ : Hid ((rsymsF c.syms 0).1 = 0) := by
        have := HF.out
        rw [List.drop_eq_nil_of_le (by omega)] at this
        show (rsymsF c.syms 0).1 = 0
        rw [← this]; rfl
      clear hsy HF
      have hge : c.syms.length ≤ k := by omega
      by_cases tlow : (c.tab.length : Int) < 1
      · have HS := Lib.hid (tab_none c.tab (by simp [few, tlow]))
        go_wp2_with fail
        go_ret2
        exact ⟨ret_two (by rw [check_tab c HL.out HZ.out (by rw [HS.out]; decide), HS.out]), hbw⟩
      by_cases thigh : (20 : Int) < (c.tab.length : Int)
      · have HS := Lib.hid (tab_none c.tab (by simp [few, thigh]))
        go_wp2_with fail
        go_ret2
        exact ⟨ret_two (by rw [check_tab c HL.out HZ.out (by rw [HS.out]; decide), HS.out]), hbw⟩
      have HT := Lib.hid (tab_some c.tab (by simp [few, tlow, thigh]))
      have tlow' : (1 : Int) ≤ (c.tab.length : Int) := by omega
      have thigh' : (c.tab.length : Int) ≤ 20 := by omega
      clear tlow thigh
      go_wp2_with fail
      clear e0 e1 hbw hwr
      go_loopw [6] (fun i ws => ∃ m : Nat, m ≤ c.tab.length ∧ i = .int .i64 m ∧ Below (w.heap.size + 1) W ws ∧ rhead c.tab m = rhead c.tab 0) (fun i _ => c.tab.length - (intOf i).toNat)
      case atStart => exact ⟨0, by omega, rfl, hb, rfl⟩
      case round =>
        clear hb
        obtain ⟨m, hm, rfl, hb, hf⟩ := hrel
        have HF := Lib.hid hf
        clear hf hk hge
        have hwr : w.heap.size + 1 ≤ wr.heap.size := by have := hb.size; rw [hbz.out] at this; exact this
        have hbw := hba.out.trans (hb.mono (Nat.le_succ _))
        obtain ⟨e0, e1⟩ := hsl.out wr hb
        clear e0
        by_cases hlt : m < c.tab.length
        · obtain ⟨b, off, rfl, hbl, hc1, hc2⟩ := htb m hlt
          have hc0 := Lib.hid (htb)
          clear htb
          rw [← hbw.cell (p := ⟨b, _, none⟩) hbl] at hc1 hc2
          have i0 : (0 : Int) ≤ (m : Int) := by omega
          have i1 : (m : Int) < (c.tab.length : Int) := by omega
          cases hi : inR 0 1125899906842624 c.tab[m].1 with
          | false =>
            have HH := Lib.hid (rhead_out c.tab m hlt hi)
            generalize c.tab[m] = r at hc1 hc2 hi
            obtain ⟨t, p⟩ := r
            dsimp only at hc1 hc2 hi
            go_wp2_with fail
            go_quiet ((go_at_call 56; exact Calls.quiet_of_same (in_quiet _ _ _ _)))
            go_wp2
            go_ret2
            exact ⟨ret_two (by rw [check_tab c HL.out HZ.out (by rw [HT.out, ← HF.out, HH.out]; simp), HT.out, ← HF.out, HH.out]), below_drewN hbw _⟩
          | true =>
          rcases m with _ | j
          · have HP := Lib.hid (rhead_phase0 c.tab hlt hi)
            have HO := Lib.hid (rhead_on0 c.tab hlt hi)
            generalize c.tab[0] = r at hc1 hc2 hi HP HO
            obtain ⟨t, p⟩ := r
            dsimp only at hc1 hc2 hi
            have q0 : decide ((0 : Int) < 0) = false := by decide
            simp only [Nat.zero_mul, Nat.add_zero] at hc1 hc2
            go_wp2_with fail
            go_quiet ((go_at_call 56; exact Calls.quiet_of_same (in_quiet _ _ _ _)))
            clear hc1
            have hc2 : (wr.drewN nq).cell? ⟨b, off + 1, none⟩ = some (.int .i64 p) := hc2
            have hc1 : True := trivial
            have hbq : Below (w.heap.size + 1) W (wr.drewN nq) := below_drewN hb _
            have hbwq : Below w.heap.size w (wr.drewN nq) := below_drewN hbw _
            obtain ⟨_, e1⟩ := hsl.out _ hbq
            generalize wr.drewN nq = wq at hbq hbwq e1 hc1 hc2 ⊢
            go_wp2_with fail
            refine (in_any _ _ _ _).mono ?_
            rintro e w' ⟨rfl, rfl⟩
            cases hp : inR 0 2 p with
            | false =>
              have HH := Lib.hid (HP.out hp)
              go_wp2
              go_ret2
              exact ⟨ret_two (by rw [check_tab c HL.out HZ.out (by rw [HT.out, HH.out]; simp), HT.out, HH.out] <;> rfl), hbwq⟩
            | true =>
              have HH := Lib.hid (HO.out hp)
              clear hp hi
              go_wp2
              go_roundw
              case rel => exact ⟨1, by omega, by go_num, hbq, HH.out.symm⟩
              case measure => simp [intOf]; omega
          · have hj : j < c.tab.length := by omega
            obtain ⟨b', off', hbo, _, hd1, _⟩ := hc0.out j hj
            simp only [Option.some.injEq, Addr.mk.injEq, and_true] at hbo
            obtain ⟨rfl, rfl⟩ := hbo
            rw [← hbw.cell (p := ⟨b, _, none⟩) hbl] at hd1
            have q0 : decide ((0 : Int) < (j : Int) + 1) = true := by simp <;> omega
            have q1 : (0 : Int) ≤ (j : Int) + 1 := by omega
            have q2 : (j : Int) + 1 < (c.tab.length : Int) := by omega
            have q3 : (0 : Int) ≤ (j : Int) := by omega
            have q4 : (j : Int) < (c.tab.length : Int) := by omega
            have q5 : IntKind.i64.wrap ((j : Int) + 1 - 1) = (j : Int) := (IntWalk.i64_in ((j : Int) + 1 - 1) ⟨by omega, by omega⟩).trans (by omega)
            by_cases hle : c.tab[j + 1].1 ≤ c.tab[j].1
            · have HH := Lib.hid (rhead_late c.tab j hlt hle)
              generalize c.tab[j + 1] = r at hc1 hc2 hi hle
              generalize c.tab[j] = r' at hd1 hle
              obtain ⟨t, p⟩ := r
              obtain ⟨t', p'⟩ := r'
              dsimp only at hc1 hc2 hi hd1 hle
              go_wp2_with fail
              go_quiet ((go_at_call 56; exact Calls.quiet_of_same (in_quiet _ _ _ _)))
              go_wp2
              go_ret2
              exact ⟨ret_two (by rw [check_tab c HL.out HZ.out (by rw [HT.out, ← HF.out, HH.out]; simp), HT.out, ← HF.out, HH.out] <;> rfl), below_drewN hbw _⟩
            have hgt : c.tab[j].1 < c.tab[j + 1].1 := by omega
            have HP := Lib.hid (rhead_phase c.tab j hlt hi hgt)
            have HO := Lib.hid (rhead_on c.tab j hlt hi hgt)
            clear hle
            generalize c.tab[j + 1] = r at hc1 hc2 hi hgt HP HO
            generalize c.tab[j] = r' at hd1 hgt HP HO
            obtain ⟨t, p⟩ := r
            obtain ⟨t', p'⟩ := r'
            dsimp only at hc1 hc2 hi hd1 hgt
            go_wp2_with fail
            go_quiet ((go_at_call 56; exact Calls.quiet_of_same (in_quiet _ _ _ _)))
            clear hc1 hd1 q5
            have hc1 : True := trivial
            have hc2 : (wr.drewN nq).cell? ⟨b, off + (j + 1) * 2 + 1, none⟩ = some (.int .i64 p) := hc2
            have hbq : Below (w.heap.size + 1) W (wr.drewN nq) := below_drewN hb _
            have hbwq : Below w.heap.size w (wr.drewN nq) := below_drewN hbw _
            obtain ⟨_, e1⟩ := hsl.out _ hbq
            generalize wr.drewN nq = wq at hbq hbwq e1 hc1 hc2 ⊢
            go_wp2_with fail
            refine (in_any _ _ _ _).mono ?_
            rintro e w' ⟨rfl, rfl⟩
            cases hp : inR 0 2 p with
            | false =>
              have HH := Lib.hid (HP.out hp)
              go_wp2
              go_ret2
              exact ⟨ret_two (by rw [check_tab c HL.out HZ.out (by rw [HT.out, ← HF.out, HH.out]; simp), HT.out, ← HF.out, HH.out] <;> rfl), hbwq⟩
            | true =>
              have HH := Lib.hid (HO.out hp)
              clear hp hi
              go_wp2
              go_roundw
              case rel => exact ⟨j + 1 + 1, by omega, by go_num, hbq, by rw [← HH.out, HF.out]⟩
              case measure => simp [intOf]; omega
        · have HTT : Hid ((rtableF c.tab).1 = 0) := by
            have := HF.out
            show (rtableF c.tab).1 = 0
            rw [HT.out, ← this]
            unfold rhead
            rw [List.drop_eq_nil_of_le (by omega)]; rfl
          have HS := Lib.hid (check_last c HL.out HZ.out HTT.out)
          obtain ⟨x2, x3, x4, x5, x6, x7⟩ := hbx.out wr hb
          clear hbw hwr
          have hge : c.tab.length ≤ m := by omega
          clear htb HF HZ HTT HT hsl hlt
          go_wp2_with fail
          clear e1
          refine (in_any _ _ _ _).mono ?_
          rintro e w' ⟨rfl, rfl⟩
          cases hr1 : inR 1 1099511627776 c.index with
          | false =>
            have HR := Lib.hid (show restR c = 9 by simp [restR, hr1])
            go_wp2
            go_ret2
            exact ⟨ret_two (by rw [HS.out, HR.out]), hba.out.trans (hb.mono (Nat.le_succ _))⟩
          | true =>
          have H1 := Lib.hid hr1
          clear hr1
          go_wp2_with fail
          refine wp_loop_rounds 4 ?_
          rw [rounds_succ]
          go_wp2_with fail
          have z0 : decide ((0 : Int) < 0) = false := by decide
          have z1 : decide ((0 : Int) < 1) = true := by decide
          have z2 : decide ((0 : Int) < 2) = true := by decide
          cases hf0 : inR 1 9999 c.f0 with
          | false =>
            have HR := Lib.hid (show restR c = 9 by simp [restR, fallsF, hf0])
            go_quiet ((go_at_call 56; exact Calls.quiet_of_same (in_quiet _ _ _ _)))
            go_wp2
            go_ret2
            exact ⟨ret_two (by rw [HS.out, HR.out]), hba.out.trans ((below_drewN hb _).mono (Nat.le_succ _))⟩
          | true =>
          go_quiet ((go_at_call 56; exact Calls.quiet_of_same (in_quiet _ _ _ _)))
          have hb1 := below_drewN hb nq
          clear x2 x3 x4 x5 x6 x7 hb
          generalize wr.drewN nq = wr1 at hb1 ⊢
          obtain ⟨x2, x3, x4, x5, x6, x7⟩ := hbx.out wr1 hb1
          go_wp2_with fail
          rw [rounds_succ]
          go_wp2_with fail
          have HF0 := Lib.hid hf0
          clear hf0
          cases hf1 : inR 1 9999 c.f1 with
          | false =>
            have HR := Lib.hid (show restR c = 9 by simp [restR, fallsF, hf1])
            go_quiet ((go_at_call 56; exact Calls.quiet_of_same (in_quiet _ _ _ _)))
            go_wp2
            go_ret2
            exact ⟨ret_two (by rw [HS.out, HR.out]), hba.out.trans ((below_drewN hb1 _).mono (Nat.le_succ _))⟩
          | true =>
          by_cases hl1 : c.f1 ≤ c.f0
          · have HR := Lib.hid (show restR c = 9 by have : ¬ c.f0 < c.f1 := by omega
                                                    simp [restR, fallsF, this])
            go_quiet ((go_at_call 56; exact Calls.quiet_of_same (in_quiet _ _ _ _)))
            go_wp2
            go_ret2
            exact ⟨ret_two (by rw [HS.out, HR.out]), hba.out.trans ((below_drewN hb1 _).mono (Nat.le_succ _))⟩
          have hg1 : c.f0 < c.f1 := by omega
          clear hl1
          go_quiet ((go_at_call 56; exact Calls.quiet_of_same (in_quiet _ _ _ _)))
          have hb2 := below_drewN hb1 nq
          clear x2 x3 x4 x5 x6 x7 hb1
          generalize wr1.drewN nq = wr2 at hb2 ⊢
          obtain ⟨x2, x3, x4, x5, x6, x7⟩ := hbx.out wr2 hb2
          go_wp2_with fail
          rw [rounds_succ]
          go_wp2_with fail
          have HF1 := Lib.hid hf1
          clear hf1
          have HG1 := Lib.hid hg1
          clear hg1
          cases hf2 : inR 1 9999 c.f2 with
          | false =>
            have HR := Lib.hid (show restR c = 9 by simp [restR, fallsF, hf2])
            go_quiet ((go_at_call 56; exact Calls.quiet_of_same (in_quiet _ _ _ _)))
            go_wp2
            go_ret2
            exact ⟨ret_two (by rw [HS.out, HR.out]), hba.out.trans ((below_drewN hb2 _).mono (Nat.le_succ _))⟩
          | true =>
          by_cases hl2 : c.f2 ≤ c.f1
          · have HR := Lib.hid (show restR c = 9 by have : ¬ c.f1 < c.f2 := by omega
                                                    simp [restR, fallsF, this])
            go_quiet ((go_at_call 56; exact Calls.quiet_of_same (in_quiet _ _ _ _)))
            go_wp2
            go_ret2
            exact ⟨ret_two (by rw [HS.out, HR.out]), hba.out.trans ((below_drewN hb2 _).mono (Nat.le_succ _))⟩
          have hg2 : c.f1 < c.f2 := by omega
          clear hl2
          go_quiet ((go_at_call 56; exact Calls.quiet_of_same (in_quiet _ _ _ _)))
          have hb3 := below_drewN hb2 nq
          clear x2 x3 x4 x5 x6 x7 hb2
          generalize wr2.drewN nq = wr3 at hb3 ⊢
          obtain ⟨x2, x3, x4, x5, x6, x7⟩ := hbx.out wr3 hb3
          go_wp2_with fail
          rw [rounds_succ]
          go_wp2_with fail
          have HF2 := Lib.hid hf2
          clear hf2
          have HG2 := Lib.hid hg2
          clear hg2
          refine (ticks_any _ _).mono ?_
          rintro e w' ⟨rfl, rfl⟩
          cases hh0 : inR 1 1099511627776 c.h0 with
          | false =>
            have HR := Lib.hid (show restR c = 9 by simp [restR, hh0])
            go_wp2
            go_ret2
            exact ⟨ret_two (by rw [HS.out, HR.out]), hba.out.trans (hb3.mono (Nat.le_succ _))⟩
          | true =>
          have HH0 := Lib.hid hh0
          clear hh0
          go_wp2_with fail
          refine (ticks_any _ _).mono ?_
          rintro e w' ⟨rfl, rfl⟩
          cases hh1 : inR 1 1099511627776 c.h1 with
          | false =>
            have HR := Lib.hid (show restR c = 9 by simp [restR, hh1])
            go_wp2
            go_ret2
            exact ⟨ret_two (by rw [HS.out, HR.out]), hba.out.trans (hb3.mono (Nat.le_succ _))⟩
          | true =>
          have HH1 := Lib.hid hh1
          clear hh1
          have HR := Lib.hid (show restR c = 0 by have a1 := H1.out; have a2 := HF0.out; have a3 := HF1.out; have a4 := HF2.out; have a5 := HG1.out; have a6 := HG2.out; have a7 := HH0.out; have a8 := HH1.out; simp [restR, fallsF, a1, a2, a3, a4, a5, a6, a7, a8])
          go_wp2
          go_ret2
          exact ⟨ret_two (by rw [HS.out, HR.out]), hba.out.trans (hb3.mono (Nat.le_succ _))⟩
end Go.Proofs.Ytggkhnmhhifniaa.RefCheck
