/- (*watch.Watch).check: the fault of a message, by its six rules. -/
import Derived.Test.YtggkhnmhhifniaaWatchSt
import Derived.Test.YtggkhnmhhifniaaWFirst
namespace Go.Proofs.Ytggkhnmhhifniaa.Watch
open Go.RowKit Go.Proofs.Ytggkhnmhhifniaa.Kit Go.Proofs.Ytggkhnmhhifniaa.Blk Go.Proofs.Ytggkhnmhhifniaa.Symbol
attribute [local go_sem ↓] Go.wp_at_zero Go.wp_at_succ

/-- What the rules have captured: the watch's pointer, the message, its symbol's row, whether it is a trade. -/
structure Cap (w : World) (A M K T : Nat) (P L cap : Nat) (sy : List Sym) (ks : List Kn) (seq tick : Int) (m : Msg) : Prop where
  wp : w.cell? ⟨A, 0, none⟩ = some (.pointer (some ⟨P, 0, none⟩))
  msg : Blk w M m.cells 40
  k : w.cell? ⟨K, 0, none⟩ = some (ofV L ks.length m.sym)
  t : w.cell? ⟨T, 0, none⟩ = some (.bool (m.kind == 3))
  pw : PW w P L cap sy ks seq tick

section
variable {w w' : World} {A M K T P L cap : Nat} {sy : List Sym} {ks : List Kn} {seq tick : Int} {m : Msg}
theorem Cap.below (h : Cap w A M K T P L cap sy ks seq tick m) (hb : Below w.heap.size w w') : Cap w' A M K T P L cap sy ks seq tick m :=
  ⟨by rw [hb.cell (World.block_lt_of_cell? w _ h.wp)]; exact h.wp, h.msg.below hb h.msg.lt, by rw [hb.cell (World.block_lt_of_cell? w _ h.k)]; exact h.k,
    by rw [hb.cell (World.block_lt_of_cell? w _ h.t)]; exact h.t, h.pw.below hb⟩
end

def kOf (ks : List Kn) (sym : Int) : Option Kn := (ofF ks.length sym).map fun i => ks.getD i Kn.zero

section
variable (A M K T P L cap : Nat) (sy : List Sym) (ks : List Kn) (seq tick : Int) (m : Msg) (w : World)
theorem r1_any (h : Cap w A M K T P L cap sy ks seq tick m) : Calls Try.prog 59 #[.pointer (some ⟨M, 0, none⟩), .pointer (some ⟨A, 0, none⟩)] w fun e w' =>
    e = .returned (.bool (m.seq == wrap64 (seq + 1))) ∧ Below w.heap.size w w' := by
  have c0 := h.wp
  have c1 : w.cell? ⟨P, 1, none⟩ = some (.int .i64 seq) := h.pw.head.cell 1 rfl
  have c2 : w.cell? ⟨M, 2, none⟩ = some (.int .i64 m.seq) := h.msg.cell 2 rfl
  clear h
  go_enter Try.func59, Try.ntmps59
  go_wp2_with fail
  go_quiet (fail)
  go_wp2
  go_ret
  exact ⟨rfl, below_drewN (Below.refl _ _) _⟩

theorem r2_any (h : Cap w A M K T P L cap sy ks seq tick m) : Calls Try.prog 60 #[.pointer (some ⟨A, 0, none⟩), .pointer (some ⟨M, 0, none⟩)] w fun e w' =>
    e = .returned (.bool (!lateF ks tick m.tick)) ∧ Below w.heap.size w w' := by
  have c0 := h.wp
  have c2 : w.cell? ⟨M, 3, none⟩ = some (.int .i64 m.tick) := h.msg.cell 3 rfl
  go_enter Try.func60, Try.ntmps60
  go_wp2_with fail
  refine (late_any P L cap sy ks seq tick m.tick _ h.pw).mono ?_
  rintro e w1 ⟨rfl, hb⟩
  go_wp2
  go_ret
  exact ⟨rfl, hb⟩

theorem r3_any (h : Cap w A M K T P L cap sy ks seq tick m) : Calls Try.prog 62 #[.pointer (some ⟨K, 0, none⟩), .pointer (some ⟨M, 0, none⟩)] w fun e w' =>
    e = .returned (.bool ((kOf ks m.sym).isSome || globalF m)) ∧ Below w.heap.size w w' := by
  have ck := h.k
  unfold ofV at ck
  cases ho : ofF ks.length m.sym with
  | none =>
    rw [ho] at ck
    have ck : w.cell? ⟨K, 0, none⟩ = some (.pointer none) := ck
    have HS := Lib.hid (show ((kOf ks m.sym).isSome || globalF m) = globalF m by simp [kOf, ho])
    have HM : Hid (Blk w M m.cells 40) := Lib.hid h.msg
    clear h ho
    go_enter Try.func62, Try.ntmps62
    have m0 : w.cell? ⟨M, 0, none⟩ = some (.int .i64 m.kind) := HM.out.cell 0 rfl
    have m1 : w.cell? ⟨M, 1, none⟩ = some (.int .i64 m.sym) := HM.out.cell 1 rfl
    have m2 : w.cell? ⟨M, 2, none⟩ = some (.int .i64 m.seq) := HM.out.cell 2 rfl
    have m3 : w.cell? ⟨M, 3, none⟩ = some (.int .i64 m.tick) := HM.out.cell 3 rfl
    have m4 : w.cell? ⟨M, 4, none⟩ = some (.int .i64 m.id) := HM.out.cell 4 rfl
    have m5 : w.cell? ⟨M, 5, none⟩ = some (.int .i64 m.wth) := HM.out.cell 5 rfl
    have m6 : w.cell? ⟨M, 6, none⟩ = some (.int .i64 m.price) := HM.out.cell 6 rfl
    have m7 : w.cell? ⟨M, 7, none⟩ = some (.int .i64 m.qty) := HM.out.cell 7 rfl
    have m8 : w.cell? ⟨M, 8, none⟩ = some (.int .i64 m.code) := HM.out.cell 8 rfl
    go_wp2_with fail
    refine (global_any m _).mono ?_
    rintro e w1 ⟨rfl, rfl⟩
    go_wp2
    go_ret
    exact ⟨ret_bool HS.out.symm, (Below.refl _ _).alloc (Nat.le_refl _) _⟩
  | some i =>
    rw [ho] at ck
    have ck : w.cell? ⟨K, 0, none⟩ = some (.pointer (some ⟨L, i * 26, none⟩)) := ck
    have HS := Lib.hid (show ((kOf ks m.sym).isSome || globalF m) = true by simp [kOf, ho])
    clear h ho
    go_enter Try.func62, Try.ntmps62
    go_wp2
    go_ret
    exact ⟨ret_bool HS.out.symm, Below.refl _ _⟩

theorem r4_any (h : Cap w A M K T P L cap sy ks seq tick m) : Calls Try.prog 64 #[.pointer (some ⟨T, 0, none⟩), .pointer (some ⟨M, 0, none⟩)] w fun e w' =>
    e = .returned (.bool (!(m.kind == 3) || decide (1 ≤ m.qty))) ∧ Below w.heap.size w w' := by
  have ct := h.t
  have m7 : w.cell? ⟨M, 7, none⟩ = some (.int .i64 m.qty) := h.msg.cell 7 rfl
  clear h
  cases hk : (m.kind == 3) with
  | true =>
    rw [hk] at ct
    go_enter Try.func64, Try.ntmps64
    go_wp2
    go_ret
    exact ⟨ret_bool (by simp), Below.refl _ _⟩
  | false =>
    rw [hk] at ct
    go_enter Try.func64, Try.ntmps64
    go_wp2
    go_ret
    exact ⟨ret_bool (by simp), Below.refl _ _⟩

theorem r5_any (h : Cap w A M K T P L cap sy ks seq tick m) (hk : (m.kind == 3) = true → (kOf ks m.sym).isSome = true) :
    Calls Try.prog 65 #[.pointer (some ⟨T, 0, none⟩), .pointer (some ⟨K, 0, none⟩), .pointer (some ⟨M, 0, none⟩)] w fun e w' =>
    e = .returned (.bool (!(m.kind == 3) || openF ((kOf ks m.sym).getD Kn.zero) m.code)) ∧ Below w.heap.size w w' := by
  have ct := h.t
  have ck := h.k
  have m8 : w.cell? ⟨M, 8, none⟩ = some (.int .i64 m.code) := h.msg.cell 8 rfl
  unfold ofV at ck
  cases hk3 : (m.kind == 3) with
  | true =>
    have hs := hk hk3
    cases ho : ofF ks.length m.sym with
    | none => simp [kOf, ho] at hs
    | some i =>
      rw [ho] at ck
      rw [hk3] at ct
      have ck : w.cell? ⟨K, 0, none⟩ = some (.pointer (some ⟨L, i * 26, none⟩)) := ck
      have hi : i < ks.length := by
        unfold ofF at ho
        by_cases hx : 0 ≤ m.sym ∧ m.sym < ks.length
        · rw [if_pos hx] at ho; cases ho; omega
        · rw [if_neg hx] at ho; cases ho
      have HK := Lib.hid (h.pw.kn i hi).phase
      have HS := Lib.hid (show (!true || openF ((kOf ks m.sym).getD Kn.zero) m.code) = openF (ks.getD i Kn.zero) m.code by simp [kOf, ho])
      clear h hs hk ho hk3 hi
      generalize ks.getD i Kn.zero = q at HK HS
      go_enter Try.func65, Try.ntmps65
      go_wp2_with fail
      refine (open_any L (i * 26) q m.code _ HK.out).mono ?_
      rintro e w1 ⟨rfl, rfl⟩
      go_wp2
      go_ret
      exact ⟨ret_bool HS.out.symm, Below.refl _ _⟩
  | false =>
    rw [hk3] at ct
    clear h hk hk3 ck
    go_enter Try.func65, Try.ntmps65
    go_wp2
    go_ret
    exact ⟨ret_bool (by simp), Below.refl _ _⟩

theorem r6_any (h : Cap w A M K T P L cap sy ks seq tick m) (hk : (m.kind == 3) = true → (kOf ks m.sym).isSome = true) :
    Calls Try.prog 67 #[.pointer (some ⟨T, 0, none⟩), .pointer (some ⟨K, 0, none⟩), .pointer (some ⟨M, 0, none⟩)] w fun e w' =>
    e = .returned (.bool (!(m.kind == 3) || inF ((kOf ks m.sym).getD Kn.zero) m)) ∧ Below w.heap.size w w' := by
  have ct := h.t
  have ck := h.k
  have HM : Hid (Blk w M m.cells 40) := Lib.hid h.msg
  unfold ofV at ck
  cases hk3 : (m.kind == 3) with
  | true =>
    have hs := hk hk3
    cases ho : ofF ks.length m.sym with
    | none => simp [kOf, ho] at hs
    | some i =>
      rw [ho] at ck
      rw [hk3] at ct
      have ck : w.cell? ⟨K, 0, none⟩ = some (.pointer (some ⟨L, i * 26, none⟩)) := ck
      have hi : i < ks.length := by
        unfold ofF at ho
        by_cases hx : 0 ≤ m.sym ∧ m.sym < ks.length
        · rw [if_pos hx] at ho; cases ho; omega
        · rw [if_neg hx] at ho; cases ho
      have HK := Lib.hid (h.pw.kn i hi)
      have hl := h.pw.lt
      have HS := Lib.hid (show (!true || inF ((kOf ks m.sym).getD Kn.zero) m) = inF (ks.getD i Kn.zero) m by simp [kOf, ho])
      clear h hs hk ho hk3 hi
      generalize ks.getD i Kn.zero = q at HK HS
      go_enter Try.func67, Try.ntmps67
      have m0 : w.cell? ⟨M, 0, none⟩ = some (.int .i64 m.kind) := HM.out.cell 0 rfl
      have m1 : w.cell? ⟨M, 1, none⟩ = some (.int .i64 m.sym) := HM.out.cell 1 rfl
      have m2 : w.cell? ⟨M, 2, none⟩ = some (.int .i64 m.seq) := HM.out.cell 2 rfl
      have m3 : w.cell? ⟨M, 3, none⟩ = some (.int .i64 m.tick) := HM.out.cell 3 rfl
      have m4 : w.cell? ⟨M, 4, none⟩ = some (.int .i64 m.id) := HM.out.cell 4 rfl
      have m5 : w.cell? ⟨M, 5, none⟩ = some (.int .i64 m.wth) := HM.out.cell 5 rfl
      have m6 : w.cell? ⟨M, 6, none⟩ = some (.int .i64 m.price) := HM.out.cell 6 rfl
      have m7 : w.cell? ⟨M, 7, none⟩ = some (.int .i64 m.qty) := HM.out.cell 7 rfl
      have m8 : w.cell? ⟨M, 8, none⟩ = some (.int .i64 m.code) := HM.out.cell 8 rfl
      go_wp2_with fail
      refine (kin_any L (i * 26) q m _ hl HK.out).mono ?_
      rintro e w1 ⟨rfl, hb⟩
      go_wp2
      go_ret
      exact ⟨ret_bool HS.out.symm, hb⟩
  | false =>
    rw [hk3] at ct
    clear h hk hk3 ck
    go_enter Try.func67, Try.ntmps67
    go_wp2
    go_ret
    exact ⟨ret_bool (by simp), Below.refl _ _⟩
end
end Go.Proofs.Ytggkhnmhhifniaa.Watch
