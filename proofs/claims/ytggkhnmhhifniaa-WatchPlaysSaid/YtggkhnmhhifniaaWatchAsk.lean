/- What a watch says of a symbol; and what a nil one says. -/
import Derived.Test.YtggkhnmhhifniaaWatchPut2
namespace Go.Proofs.Ytggkhnmhhifniaa.Watch
open Go.RowKit Go.Proofs.Ytggkhnmhhifniaa.Kit Go.Proofs.Ytggkhnmhhifniaa.Blk Go.Proofs.Ytggkhnmhhifniaa.Symbol
attribute [local go_sem ↓] Go.wp_at_zero Go.wp_at_succ

theorem put_nil (m : Msg) (w : World) : Calls Try.prog 11 #[.pointer none, .agg m.cells] w fun e w' => e = .returned (.int .i64 1) ∧ Below w.heap.size w w' := by
  go_enter Try.func11, Try.ntmps11
  go_wp2
  go_ret
  exact ⟨rfl, (Below.refl _ _).alloc (Nat.le_refl _) _⟩
theorem phase_nil (sym : Int) (w : World) : Calls Try.prog 14 #[.pointer none, .int .i64 sym] w fun e w' => e = .returned (.int .i64 0) ∧ w = w' := by
  go_enter Try.func14, Try.ntmps14
  go_wp2_with fail
  refine (of_nil sym _).mono ?_
  rintro e w' ⟨rfl, rfl⟩
  go_wp2
  go_ret
  exact ⟨rfl, rfl⟩
theorem deadline_nil (sym : Int) (w : World) : Calls Try.prog 16 #[.pointer none, .int .i64 sym] w fun e w' => e = .returned (.int .i64 0) ∧ w = w' := by
  go_enter Try.func16, Try.ntmps16
  go_wp2_with fail
  refine (of_nil sym _).mono ?_
  rintro e w' ⟨rfl, rfl⟩
  go_wp2
  go_ret
  exact ⟨rfl, rfl⟩
theorem band_nil (sym : Int) (w : World) : Calls Try.prog 15 #[.pointer none, .int .i64 sym] w fun e w' => e = .returned (.agg #[.int .i64 0, .int .i64 0]) ∧ Below w.heap.size w w' := by
  go_enter Try.func15, Try.ntmps15
  go_wp2_with fail
  refine (of_nil sym _).mono ?_
  rintro e w' ⟨rfl, rfl⟩
  go_wp2
  refine bodyPost_ret (v := .agg #[.int .i64 0, .int .i64 0]) (by simp [results, Try.results15, go_sem]) rfl ?_
  exact ⟨rfl, (Below.refl _ _).alloc (Nat.le_refl _) _⟩
theorem trades_nil (sym : Int) (w : World) : Calls Try.prog 17 #[.pointer none, .int .i64 sym] w fun e w' => e = .returned (.agg #[.int .i64 0, .int .i64 0, .int .i64 0, .int .i64 0]) ∧ Below w.heap.size w w' := by
  go_enter Try.func17, Try.ntmps17
  go_wp2_with fail
  refine (of_nil sym _).mono ?_
  rintro e w' ⟨rfl, rfl⟩
  go_wp2
  refine bodyPost_ret (v := .agg #[.int .i64 0, .int .i64 0, .int .i64 0, .int .i64 0]) (by simp [results, Try.results17, go_sem]) rfl ?_
  exact ⟨rfl, (Below.refl _ _).alloc (Nat.le_refl _) _⟩

/-- What is known of a symbol; the zero one: there is none. -/
def knF (ks : List Kn) (sym : Int) : Kn := (kOf ks sym).getD Kn.zero

section
variable (P L cap : Nat) (sy : List Sym) (ks : List Kn) (seq tick sym : Int) (w : World)
theorem knF_none (h : ofF ks.length sym = none) : knF ks sym = Kn.zero := by unfold knF kOf; rw [h]; rfl
theorem knF_some (i : Nat) (h : ofF ks.length sym = some i) : knF ks sym = ks.getD i Kn.zero := by unfold knF kOf; rw [h]; rfl
theorem ofF_lt (n i : Nat) (s : Int) (h : ofF n s = some i) : i < n := by
  unfold ofF at h
  by_cases hx : 0 ≤ s ∧ s < n
  · rw [if_pos hx] at h; cases h; omega
  · rw [if_neg hx] at h; cases h

theorem phase_any (h : PW w P L cap sy ks seq tick) : Calls Try.prog 14 #[.pointer (some ⟨P, 0, none⟩), .int .i64 sym] w fun e w' => e = .returned (.int .i64 (knF ks sym).phase) ∧ w = w' := by
  have HP := Lib.hid h
  clear h
  cases hof : ofF ks.length sym with
  | none =>
    have HK := Lib.hid (show (knF ks sym).phase = 0 by rw [knF_none _ _ hof]; rfl)
    have hv : ofV L ks.length sym = .pointer none := by unfold ofV; rw [hof]; rfl
    go_enter Try.func14, Try.ntmps14
    go_wp2_with fail
    refine (of_any P L cap sy ks seq tick sym _ HP.out).mono ?_
    rintro e w' ⟨rfl, rfl⟩
    rw [hv]
    go_wp2
    go_ret
    exact ⟨ret_int HK.out.symm, rfl⟩
  | some i =>
    have HK := Lib.hid (show (knF ks sym).phase = (ks.getD i Kn.zero).phase by rw [knF_some _ _ _ hof])
    have hv : ofV L ks.length sym = .pointer (some ⟨L, i * 26, none⟩) := by unfold ofV; rw [hof]; rfl
    have r : w.cell? ⟨L, i * 26 + 16, none⟩ = some (.int .i64 (ks.getD i Kn.zero).phase) := HP.out.row i (ofF_lt _ _ _ hof) 16 _ rfl
    go_enter Try.func14, Try.ntmps14
    go_wp2_with fail
    refine (of_any P L cap sy ks seq tick sym _ HP.out).mono ?_
    rintro e w' ⟨rfl, rfl⟩
    rw [hv]
    generalize (ks.getD i Kn.zero).phase = z at r HK
    go_wp2
    go_ret
    exact ⟨ret_int HK.out.symm, rfl⟩
theorem deadline_any (h : PW w P L cap sy ks seq tick) : Calls Try.prog 16 #[.pointer (some ⟨P, 0, none⟩), .int .i64 sym] w fun e w' => e = .returned (.int .i64 (knF ks sym).deadline) ∧ w = w' := by
  have HP := Lib.hid h
  clear h
  cases hof : ofF ks.length sym with
  | none =>
    have HK := Lib.hid (show (knF ks sym).deadline = 0 by rw [knF_none _ _ hof]; rfl)
    have hv : ofV L ks.length sym = .pointer none := by unfold ofV; rw [hof]; rfl
    go_enter Try.func16, Try.ntmps16
    go_wp2_with fail
    refine (of_any P L cap sy ks seq tick sym _ HP.out).mono ?_
    rintro e w' ⟨rfl, rfl⟩
    rw [hv]
    go_wp2
    go_ret
    exact ⟨ret_int HK.out.symm, rfl⟩
  | some i =>
    have HK := Lib.hid (show (knF ks sym).deadline = (ks.getD i Kn.zero).deadline by rw [knF_some _ _ _ hof])
    have hv : ofV L ks.length sym = .pointer (some ⟨L, i * 26, none⟩) := by unfold ofV; rw [hof]; rfl
    have r : w.cell? ⟨L, i * 26 + 21, none⟩ = some (.int .i64 (ks.getD i Kn.zero).deadline) := HP.out.row i (ofF_lt _ _ _ hof) 21 _ rfl
    go_enter Try.func16, Try.ntmps16
    go_wp2_with fail
    refine (of_any P L cap sy ks seq tick sym _ HP.out).mono ?_
    rintro e w' ⟨rfl, rfl⟩
    rw [hv]
    generalize (ks.getD i Kn.zero).deadline = z at r HK
    go_wp2
    go_ret
    exact ⟨ret_int HK.out.symm, rfl⟩
end
end Go.Proofs.Ytggkhnmhhifniaa.Watch
