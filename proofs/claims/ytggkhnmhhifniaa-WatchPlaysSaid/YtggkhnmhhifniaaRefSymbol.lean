/- damperref07.Symbol: the document's fault of a symbol; and that it is the program's. -/
import Derived.Test.YtggkhnmhhifniaaSym
namespace Go.Proofs.Ytggkhnmhhifniaa.RefSymbol
open Go.RowKit Go.Proofs.Ytggkhnmhhifniaa.Kit Go.Proofs.Ytggkhnmhhifniaa.Symbol Go.Proofs.Ytggkhnmhhifniaa.Fix

def inR (lo hi n : Int) : Bool := decide (lo ≤ n) && decide (n ≤ hi)

theorem in_any (n lo hi : Int) (w : World) : Calls Try.prog 56 #[.int .i64 n, .int .i64 lo, .int .i64 hi] w fun e w' => e = .returned (.bool (inR lo hi n)) ∧ w = w' := by
  by_cases h1 : lo ≤ n
  · by_cases h2 : n ≤ hi
    · have HS := Lib.hid (show inR lo hi n = true by simp [inR, h1, h2])
      go_enter Try.func56, Try.ntmps56
      go_wp2
      go_ret
      exact ⟨ret_bool HS.out.symm, rfl⟩
    · have HS := Lib.hid (show inR lo hi n = false by simp [inR, h2])
      go_enter Try.func56, Try.ntmps56
      go_wp2
      go_ret
      exact ⟨ret_bool HS.out.symm, rfl⟩
  · have HS := Lib.hid (show inR lo hi n = false by simp [inR, h1])
    go_enter Try.func56, Try.ntmps56
    go_wp2
    go_ret
    exact ⟨ret_bool HS.out.symm, rfl⟩

theorem part_any (n : Int) (w : World) : Calls Try.prog 88 #[.int .i64 n] w fun e w' => e = .returned (.bool (inR 0 9999 n)) ∧ w = w' := by
  go_enter Try.func88, Try.ntmps88
  go_wp2_with (go_at_call 56; refine (in_any _ _ _ _).mono ?_; rintro e w' ⟨rfl, rfl⟩)
  go_ret
  exact ⟨rfl, rfl⟩

theorem ticks_any (n : Int) (w : World) : Calls Try.prog 57 #[.int .i64 n] w fun e w' => e = .returned (.bool (inR 1 1099511627776 n)) ∧ w = w' := by
  go_enter Try.func57, Try.ntmps57
  go_wp2_with (go_at_call 56; refine (in_any _ _ _ _).mono ?_; rintro e w' ⟨rfl, rfl⟩)
  go_ret
  exact ⟨rfl, rfl⟩

def refSym (s : Sym) : Int :=
  if !(inR 1 1099511627776 s.grid && inR 1 1099511627776 s.ref) then 9 else
  if !((s.ref % s.grid == 0)) then 8 else
  if !(inR 0 9999 s.static && inR 0 9999 s.dynamic && inR 0 9999 s.move && inR 0 9999 s.collar && inR 0 9999 s.widen && inR 0 9999 s.short) then 9 else
  if !(inR 1 1099511627776 s.window && inR 1 1099511627776 s.limit && inR 1 1099511627776 s.pause && inR 1 1099511627776 s.ext && inR 0 10 s.maxExt && inR 0 3 s.self && inR 1 500 s.slots && inR 1 200 s.levels) then 9 else
  if !(decide (s.dynamic ≤ s.static)) then 11 else
  0

set_option maxRecDepth 100000 in
set_option maxHeartbeats 4000000 in
theorem symbol_ref (s : Sym) (w : World) :
    Calls Try.prog 55 #[.agg s.cells] w fun e w' => e = .returned (.int .i64 (refSym s)) ∧ w.alloc (.cells s.cells 73) = w' := by
  unfold Sym.cells
  go_enter Try.func55, Try.ntmps55
  go_wp2_with fail
  refine (in_any _ _ _ _).mono ?_
  rintro e w' ⟨rfl, rfl⟩
  cases hr0 : inR 1 1099511627776 s.grid with
  | false =>
    have HS := Lib.hid (show refSym s = 9 by skip; simp [refSym, *])
    go_wp2
    go_ret
    exact ⟨ret_int HS.out.symm, rfl⟩
  | true =>
  have H0 := Lib.hid hr0
  clear hr0
  go_wp2_with fail
  refine (in_any _ _ _ _).mono ?_
  rintro e w' ⟨rfl, rfl⟩
  cases hr1 : inR 1 1099511627776 s.ref with
  | false =>
    have HS := Lib.hid (show refSym s = 9 by have a0 := H0.out; simp [refSym, *])
    go_wp2
    go_ret
    exact ⟨ret_int HS.out.symm, rfl⟩
  | true =>
  have H1 := Lib.hid hr1
  clear hr1
  have b1 : 1 ≤ s.grid ∧ s.grid ≤ 1099511627776 := by have := H0.out; simpa [inR] using this
  have b2 : 1 ≤ s.ref ∧ s.ref ≤ 1099511627776 := by have := H1.out; simpa [inR] using this
  obtain ⟨b11, b12⟩ := b1
  obtain ⟨b21, b22⟩ := b2
  have b3 : 0 ≤ s.ref := by omega
  cases hm : (s.ref % s.grid != 0) with
  | true =>
    have HS := Lib.hid (show refSym s = 8 by have a0 := H0.out; have a1 := H1.out; have am : ¬ s.ref % s.grid = 0 := by simpa using hm
                                             simp [refSym, a0, a1, am])
    go_wp2
    go_ret
    exact ⟨ret_int HS.out.symm, rfl⟩
  | false =>
  have HM := Lib.hid (show s.ref % s.grid = 0 by simpa using hm)
  go_wp2_with fail
  refine (part_any _ _).mono ?_
  rintro e w' ⟨rfl, rfl⟩
  cases hr2 : inR 0 9999 s.static with
  | false =>
    have HS := Lib.hid (show refSym s = 9 by have a0 := H0.out; have a1 := H1.out; have a2 := HM.out; simp [refSym, *])
    go_wp2
    go_ret
    exact ⟨ret_int HS.out.symm, rfl⟩
  | true =>
  have H2 := Lib.hid hr2
  clear hr2
  go_wp2_with fail
  refine (part_any _ _).mono ?_
  rintro e w' ⟨rfl, rfl⟩
  cases hr3 : inR 0 9999 s.dynamic with
  | false =>
    have HS := Lib.hid (show refSym s = 9 by have a0 := H0.out; have a1 := H1.out; have a2 := HM.out; have a3 := H2.out; simp [refSym, *])
    go_wp2
    go_ret
    exact ⟨ret_int HS.out.symm, rfl⟩
  | true =>
  have H3 := Lib.hid hr3
  clear hr3
  go_wp2_with fail
  refine (part_any _ _).mono ?_
  rintro e w' ⟨rfl, rfl⟩
  cases hr4 : inR 0 9999 s.move with
  | false =>
    have HS := Lib.hid (show refSym s = 9 by have a0 := H0.out; have a1 := H1.out; have a2 := HM.out; have a3 := H2.out; have a4 := H3.out; simp [refSym, *])
    go_wp2
    go_ret
    exact ⟨ret_int HS.out.symm, rfl⟩
  | true =>
  have H4 := Lib.hid hr4
  clear hr4
  go_wp2_with fail
  refine (part_any _ _).mono ?_
  rintro e w' ⟨rfl, rfl⟩
  cases hr5 : inR 0 9999 s.collar with
  | false =>
    have HS := Lib.hid (show refSym s = 9 by have a0 := H0.out; have a1 := H1.out; have a2 := HM.out; have a3 := H2.out; have a4 := H3.out; have a5 := H4.out; simp [refSym, *])
    go_wp2
    go_ret
    exact ⟨ret_int HS.out.symm, rfl⟩
  | true =>
  have H5 := Lib.hid hr5
  clear hr5
  go_wp2_with fail
  refine (part_any _ _).mono ?_
  rintro e w' ⟨rfl, rfl⟩
  cases hr6 : inR 0 9999 s.widen with
  | false =>
    have HS := Lib.hid (show refSym s = 9 by have a0 := H0.out; have a1 := H1.out; have a2 := HM.out; have a3 := H2.out; have a4 := H3.out; have a5 := H4.out; have a6 := H5.out; simp [refSym, *])
    go_wp2
    go_ret
    exact ⟨ret_int HS.out.symm, rfl⟩
  | true =>
  have H6 := Lib.hid hr6
  clear hr6
  go_wp2_with fail
  refine (part_any _ _).mono ?_
  rintro e w' ⟨rfl, rfl⟩
  cases hr7 : inR 0 9999 s.short with
  | false =>
    have HS := Lib.hid (show refSym s = 9 by have a0 := H0.out; have a1 := H1.out; have a2 := HM.out; have a3 := H2.out; have a4 := H3.out; have a5 := H4.out; have a6 := H5.out; have a7 := H6.out; simp [refSym, *])
    go_wp2
    go_ret
    exact ⟨ret_int HS.out.symm, rfl⟩
  | true =>
  have H7 := Lib.hid hr7
  clear hr7
  go_wp2_with fail
  refine (ticks_any _ _).mono ?_
  rintro e w' ⟨rfl, rfl⟩
  cases hr8 : inR 1 1099511627776 s.window with
  | false =>
    have HS := Lib.hid (show refSym s = 9 by have a0 := H0.out; have a1 := H1.out; have a2 := HM.out; have a3 := H2.out; have a4 := H3.out; have a5 := H4.out; have a6 := H5.out; have a7 := H6.out; have a8 := H7.out; simp [refSym, *])
    go_wp2
    go_ret
    exact ⟨ret_int HS.out.symm, rfl⟩
  | true =>
  have H8 := Lib.hid hr8
  clear hr8
  go_wp2_with fail
  refine (ticks_any _ _).mono ?_
  rintro e w' ⟨rfl, rfl⟩
  cases hr9 : inR 1 1099511627776 s.limit with
  | false =>
    have HS := Lib.hid (show refSym s = 9 by have a0 := H0.out; have a1 := H1.out; have a2 := HM.out; have a3 := H2.out; have a4 := H3.out; have a5 := H4.out; have a6 := H5.out; have a7 := H6.out; have a8 := H7.out; have a9 := H8.out; simp [refSym, *])
    go_wp2
    go_ret
    exact ⟨ret_int HS.out.symm, rfl⟩
  | true =>
  have H9 := Lib.hid hr9
  clear hr9
  go_wp2_with fail
  refine (ticks_any _ _).mono ?_
  rintro e w' ⟨rfl, rfl⟩
  cases hr10 : inR 1 1099511627776 s.pause with
  | false =>
    have HS := Lib.hid (show refSym s = 9 by have a0 := H0.out; have a1 := H1.out; have a2 := HM.out; have a3 := H2.out; have a4 := H3.out; have a5 := H4.out; have a6 := H5.out; have a7 := H6.out; have a8 := H7.out; have a9 := H8.out; have a10 := H9.out; simp [refSym, *])
    go_wp2
    go_ret
    exact ⟨ret_int HS.out.symm, rfl⟩
  | true =>
  have H10 := Lib.hid hr10
  clear hr10
  go_wp2_with fail
  refine (ticks_any _ _).mono ?_
  rintro e w' ⟨rfl, rfl⟩
  cases hr11 : inR 1 1099511627776 s.ext with
  | false =>
    have HS := Lib.hid (show refSym s = 9 by have a0 := H0.out; have a1 := H1.out; have a2 := HM.out; have a3 := H2.out; have a4 := H3.out; have a5 := H4.out; have a6 := H5.out; have a7 := H6.out; have a8 := H7.out; have a9 := H8.out; have a10 := H9.out; have a11 := H10.out; simp [refSym, *])
    go_wp2
    go_ret
    exact ⟨ret_int HS.out.symm, rfl⟩
  | true =>
  have H11 := Lib.hid hr11
  clear hr11
  go_wp2_with fail
  refine (in_any _ _ _ _).mono ?_
  rintro e w' ⟨rfl, rfl⟩
  cases hr12 : inR 0 10 s.maxExt with
  | false =>
    have HS := Lib.hid (show refSym s = 9 by have a0 := H0.out; have a1 := H1.out; have a2 := HM.out; have a3 := H2.out; have a4 := H3.out; have a5 := H4.out; have a6 := H5.out; have a7 := H6.out; have a8 := H7.out; have a9 := H8.out; have a10 := H9.out; have a11 := H10.out; have a12 := H11.out; simp [refSym, *])
    go_wp2
    go_ret
    exact ⟨ret_int HS.out.symm, rfl⟩
  | true =>
  have H12 := Lib.hid hr12
  clear hr12
  go_wp2_with fail
  refine (in_any _ _ _ _).mono ?_
  rintro e w' ⟨rfl, rfl⟩
  cases hr13 : inR 0 3 s.self with
  | false =>
    have HS := Lib.hid (show refSym s = 9 by have a0 := H0.out; have a1 := H1.out; have a2 := HM.out; have a3 := H2.out; have a4 := H3.out; have a5 := H4.out; have a6 := H5.out; have a7 := H6.out; have a8 := H7.out; have a9 := H8.out; have a10 := H9.out; have a11 := H10.out; have a12 := H11.out; have a13 := H12.out; simp [refSym, *])
    go_wp2
    go_ret
    exact ⟨ret_int HS.out.symm, rfl⟩
  | true =>
  have H13 := Lib.hid hr13
  clear hr13
  go_wp2_with fail
  refine (in_any _ _ _ _).mono ?_
  rintro e w' ⟨rfl, rfl⟩
  cases hr14 : inR 1 500 s.slots with
  | false =>
    have HS := Lib.hid (show refSym s = 9 by have a0 := H0.out; have a1 := H1.out; have a2 := HM.out; have a3 := H2.out; have a4 := H3.out; have a5 := H4.out; have a6 := H5.out; have a7 := H6.out; have a8 := H7.out; have a9 := H8.out; have a10 := H9.out; have a11 := H10.out; have a12 := H11.out; have a13 := H12.out; have a14 := H13.out; simp [refSym, *])
    go_wp2
    go_ret
    exact ⟨ret_int HS.out.symm, rfl⟩
  | true =>
  have H14 := Lib.hid hr14
  clear hr14
  go_wp2_with fail
  refine (in_any _ _ _ _).mono ?_
  rintro e w' ⟨rfl, rfl⟩
  cases hr15 : inR 1 200 s.levels with
  | false =>
    have HS := Lib.hid (show refSym s = 9 by have a0 := H0.out; have a1 := H1.out; have a2 := HM.out; have a3 := H2.out; have a4 := H3.out; have a5 := H4.out; have a6 := H5.out; have a7 := H6.out; have a8 := H7.out; have a9 := H8.out; have a10 := H9.out; have a11 := H10.out; have a12 := H11.out; have a13 := H12.out; have a14 := H13.out; have a15 := H14.out; simp [refSym, *])
    go_wp2
    go_ret
    exact ⟨ret_int HS.out.symm, rfl⟩
  | true =>
  have H15 := Lib.hid hr15
  clear hr15
  by_cases hd : s.dynamic ≤ s.static
  · have HS := Lib.hid (show refSym s = 0 by have a0 := H0.out; have a1 := H1.out; have a2 := HM.out; have a3 := H2.out; have a4 := H3.out; have a5 := H4.out; have a6 := H5.out; have a7 := H6.out; have a8 := H7.out; have a9 := H8.out; have a10 := H9.out; have a11 := H10.out; have a12 := H11.out; have a13 := H12.out; have a14 := H13.out; have a15 := H14.out; have a16 := H15.out; simp [refSym, *])
    go_wp2
    go_ret
    exact ⟨ret_int HS.out.symm, rfl⟩
  · have HS := Lib.hid (show refSym s = 11 by have a0 := H0.out; have a1 := H1.out; have a2 := HM.out; have a3 := H2.out; have a4 := H3.out; have a5 := H4.out; have a6 := H5.out; have a7 := H6.out; have a8 := H7.out; have a9 := H8.out; have a10 := H9.out; have a11 := H10.out; have a12 := H11.out; have a13 := H12.out; have a14 := H13.out; have a15 := H14.out; have a16 := H15.out; simp [refSym, *])
    have hd' : s.static < s.dynamic := by omega
    go_wp2
    go_ret
    exact ⟨ret_int HS.out.symm, rfl⟩
end Go.Proofs.Ytggkhnmhhifniaa.RefSymbol
