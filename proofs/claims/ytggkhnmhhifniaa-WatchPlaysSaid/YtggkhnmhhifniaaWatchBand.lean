/- The watch's Band and Trades of any symbol. -/
import Derived.Test.YtggkhnmhhifniaaWatchRNew
namespace Go.Proofs.Ytggkhnmhhifniaa.Watch
open Go.RowKit Go.Proofs.Ytggkhnmhhifniaa.Kit Go.Proofs.Ytggkhnmhhifniaa.Blk Go.Proofs.Ytggkhnmhhifniaa.Symbol
attribute [local go_sem ↓] Go.wp_at_zero Go.wp_at_succ

section
variable (P L cap : Nat) (sy : List Sym) (ks : List Kn) (seq tick sym : Int) (w : World) (h : PW w P L cap sy ks seq tick)
include h
theorem band_any : Calls Try.prog 15 #[.pointer (some ⟨P, 0, none⟩), .int .i64 sym] w fun e w' => e = .returned (.agg #[.int .i64 (knF ks sym).blo, .int .i64 (knF ks sym).bhi]) ∧ Below w.heap.size w w' := by
  have HB := Lib.hid (show Below w.heap.size w (w.alloc (.cells #[.int .i64 0, .int .i64 0] 45)) from (Below.refl _ _).alloc (Nat.le_refl _) _)
  have HP := Lib.hid (h.below HB.out)
  have hL := h.lt
  clear h
  cases hof : ofF ks.length sym with
  | none =>
    have HK := Lib.hid (show knF ks sym = Kn.zero from knF_none _ _ hof)
    have hv : ofV L ks.length sym = .pointer none := by unfold ofV; rw [hof]; rfl
    have HO := Lib.hid (fun w => of_any P L cap sy ks seq tick sym w)
    rw [hv] at HO
    clear hof hv
    go_enter Try.func15, Try.ntmps15
    go_wp2_with fail
    refine (HO.out _ HP.out).mono ?_
    rintro e w1 ⟨rfl, rfl⟩
    clear HO
    go_wp2
    refine bodyPost_ret (v := .agg #[.int .i64 0, .int .i64 0]) (by simp [results, Try.results15, go_sem]) rfl ?_
    exact ⟨by rw [HK.out]; rfl, HB.out⟩
  | some i =>
    have hi : i < ks.length := ofF_lt _ _ _ hof
    have hv : ofV L ks.length sym = .pointer (some ⟨L, i * 26, none⟩) := by unfold ofV; rw [hof]; rfl
    have HO := Lib.hid (fun w => of_any P L cap sy ks seq tick sym w)
    rw [hv] at HO
    have HK := Lib.hid (show knF ks sym = ks.getD i Kn.zero from knF_some _ _ i hof)
    have HR := Lib.hid (HP.out.row i hi)
    clear hof hv
    go_enter Try.func15, Try.ntmps15
    go_wp2_with fail
    refine (HO.out _ HP.out).mono ?_
    rintro e w1 ⟨rfl, rfl⟩
    clear HO
    generalize ks.getD i Kn.zero = k at HK HR
    generalize hs : sy.getD i noSym = s at HR
    clear hs
    have k17 : (w.alloc (.cells #[.int .i64 0, .int .i64 0] 45)).cell? ⟨L, i * 26 + 17, none⟩ = some (.int .i64 k.blo) := HR.out 17 _ rfl
    have k18 : (w.alloc (.cells #[.int .i64 0, .int .i64 0] 45)).cell? ⟨L, i * 26 + 18, none⟩ = some (.int .i64 k.bhi) := HR.out 18 _ rfl
    go_wp2
    refine bodyPost_ret (v := .agg #[.int .i64 k.blo, .int .i64 k.bhi]) (by simp [results, Try.results15, go_sem]) rfl ?_
    exact ⟨by rw [HK.out], (Below.refl _ _).alloc (Nat.le_refl _) _⟩
theorem trades_any : Calls Try.prog 17 #[.pointer (some ⟨P, 0, none⟩), .int .i64 sym] w fun e w' => e = .returned (.agg #[.int .i64 (knF ks sym).t0, .int .i64 (knF ks sym).t1, .int .i64 (knF ks sym).t2, .int .i64 (knF ks sym).t3]) ∧ Below w.heap.size w w' := by
  have HB := Lib.hid (show Below w.heap.size w (w.alloc (.cells #[.int .i64 0, .int .i64 0, .int .i64 0, .int .i64 0] 46)) from (Below.refl _ _).alloc (Nat.le_refl _) _)
  have HP := Lib.hid (h.below HB.out)
  have hL := h.lt
  clear h
  cases hof : ofF ks.length sym with
  | none =>
    have HK := Lib.hid (show knF ks sym = Kn.zero from knF_none _ _ hof)
    have hv : ofV L ks.length sym = .pointer none := by unfold ofV; rw [hof]; rfl
    have HO := Lib.hid (fun w => of_any P L cap sy ks seq tick sym w)
    rw [hv] at HO
    clear hof hv
    go_enter Try.func17, Try.ntmps17
    go_wp2_with fail
    refine (HO.out _ HP.out).mono ?_
    rintro e w1 ⟨rfl, rfl⟩
    clear HO
    go_wp2
    refine bodyPost_ret (v := .agg #[.int .i64 0, .int .i64 0, .int .i64 0, .int .i64 0]) (by simp [results, Try.results17, go_sem]) rfl ?_
    exact ⟨by rw [HK.out]; rfl, HB.out⟩
  | some i =>
    have hi : i < ks.length := ofF_lt _ _ _ hof
    have hv : ofV L ks.length sym = .pointer (some ⟨L, i * 26, none⟩) := by unfold ofV; rw [hof]; rfl
    have HO := Lib.hid (fun w => of_any P L cap sy ks seq tick sym w)
    rw [hv] at HO
    have HK := Lib.hid (show knF ks sym = ks.getD i Kn.zero from knF_some _ _ i hof)
    have HR := Lib.hid (HP.out.row i hi)
    clear hof hv
    go_enter Try.func17, Try.ntmps17
    go_wp2_with fail
    refine (HO.out _ HP.out).mono ?_
    rintro e w1 ⟨rfl, rfl⟩
    clear HO
    generalize ks.getD i Kn.zero = k at HK HR
    generalize hs : sy.getD i noSym = s at HR
    clear hs
    have k22 : (w.alloc (.cells #[.int .i64 0, .int .i64 0, .int .i64 0, .int .i64 0] 46)).cell? ⟨L, i * 26 + 22, none⟩ = some (.int .i64 k.t0) := HR.out 22 _ rfl
    have k23 : (w.alloc (.cells #[.int .i64 0, .int .i64 0, .int .i64 0, .int .i64 0] 46)).cell? ⟨L, i * 26 + 22 + 1, none⟩ = some (.int .i64 k.t1) := HR.out 23 _ rfl
    have k24 : (w.alloc (.cells #[.int .i64 0, .int .i64 0, .int .i64 0, .int .i64 0] 46)).cell? ⟨L, i * 26 + 22 + 2, none⟩ = some (.int .i64 k.t2) := HR.out 24 _ rfl
    have k25 : (w.alloc (.cells #[.int .i64 0, .int .i64 0, .int .i64 0, .int .i64 0] 46)).cell? ⟨L, i * 26 + 22 + 3, none⟩ = some (.int .i64 k.t3) := HR.out 25 _ rfl
    go_wp2
    refine bodyPost_ret (v := .agg #[.int .i64 k.t0, .int .i64 k.t1, .int .i64 k.t2, .int .i64 k.t3]) (by simp [results, Try.results17, go_sem]) rfl ?_
    exact ⟨by rw [HK.out], (Below.refl _ _).alloc (Nat.le_refl _) _⟩
end
end Go.Proofs.Ytggkhnmhhifniaa.Watch
