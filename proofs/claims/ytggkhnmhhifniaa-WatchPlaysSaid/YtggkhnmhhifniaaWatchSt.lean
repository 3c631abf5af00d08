/- A watch in memory: its head, its rows; and what leaves it as it was. -/
import Derived.Test.YtggkhnmhhifniaaWatchSmall
import Derived.Test.YtggkhnmhhifniaaBlkRow
namespace Go.Proofs.Ytggkhnmhhifniaa.Watch
open Go.RowKit Go.Proofs.Ytggkhnmhhifniaa.Kit Go.Proofs.Ytggkhnmhhifniaa.Blk Go.Proofs.Ytggkhnmhhifniaa.Symbol

def noSym : Sym := ⟨0, 0, 0, 0, 0, 0, 0, 0, 0, 0, 0, 0, 0, 0, 0, 0⟩

structure PW (w : World) (P L cap : Nat) (sy : List Sym) (ks : List Kn) (seq tick : Int) : Prop where
  head : Blk w P #[.slice (some ⟨L, 0, none⟩) ks.length cap, .int .i64 seq, .int .i64 tick] 71
  row : ∀ i, i < ks.length → ∀ (j : Nat) (v : Value), (rowCells (sy.getD i noSym) (ks.getD i Kn.zero))[j]? = some v → w.cell? ⟨L, i * 26 + j, none⟩ = some v
  free : ∀ j, w.frozen? ⟨L, j, none⟩ = false
  len : sy.length = ks.length
  ne : P ≠ L
  lt : L < w.heap.size
  few : ks.length ≤ 8

section
variable {w w' : World} {P L cap : Nat} {sy : List Sym} {ks : List Kn} {seq tick : Int}
theorem PW.below (h : PW w P L cap sy ks seq tick) (hb : Below w.heap.size w w') : PW w' P L cap sy ks seq tick :=
  ⟨h.head.below hb h.head.lt, fun i hi j v hv => by rw [hb.cell (p := ⟨L, _, none⟩) h.lt]; exact h.row i hi j v hv, fun j => by rw [hb.frozen (p := ⟨L, _, none⟩) h.lt]; exact h.free j,
    h.len, h.ne, Nat.lt_of_lt_of_le h.lt hb.size, h.few⟩
theorem PW.kn (h : PW w P L cap sy ks seq tick) (i : Nat) (hi : i < ks.length) : KnAt w L (i * 26) (ks.getD i Kn.zero) :=
  ⟨h.row i hi 16 _ rfl, h.row i hi 17 _ rfl, h.row i hi 18 _ rfl, h.row i hi 19 _ rfl, h.row i hi 20 _ rfl, h.row i hi 21 _ rfl⟩
theorem PW.range (h : PW w P L cap sy ks seq tick) (i : Nat) (hi : i < ks.length) : w.rangeAt L (i * 26) (rowCells (sy.getD i noSym) (ks.getD i Kn.zero)).toList :=
  fun j v hv => h.row i hi j v (by simpa using hv)
end

/-- The place of a symbol's row; none: there is no such symbol. -/
def ofF (n : Nat) (sym : Int) : Option Nat := if 0 ≤ sym ∧ sym < n then some sym.toNat else none
def ofV (L n : Nat) (sym : Int) : Value := .pointer ((ofF n sym).map fun i => ⟨L, i * 26, none⟩)

theorem of_none (L n : Nat) (sym : Int) (h : ¬ (0 ≤ sym ∧ sym < n)) : ofV L n sym = .pointer none := by
  unfold ofV ofF; rw [if_neg h]; rfl
theorem of_some (L n i : Nat) (h : i < n) : ofV L n (i : Int) = .pointer (some ⟨L, i * 26, none⟩) := by
  unfold ofV ofF; rw [if_pos (by omega)]; rfl

theorem ret_val {a b : Value} (h : a = b) : Ending.returned a = .returned b := by rw [h]

theorem of_any (P L cap : Nat) (sy : List Sym) (ks : List Kn) (seq tick sym : Int) (w : World) (h : PW w P L cap sy ks seq tick) :
    Calls Try.prog 31 #[.pointer (some ⟨P, 0, none⟩), .int .i64 sym] w fun e w' => e = .returned (ofV L ks.length sym) ∧ w = w' := by
  have c0 : w.cell? ⟨P, 0, none⟩ = some (.slice (some ⟨L, 0, none⟩) ks.length cap) := h.head.cell 0 rfl
  by_cases h0 : sym < 0
  · have HS := Lib.hid (of_none L ks.length sym (by omega))
    go_enter Try.func31, Try.ntmps31
    go_wp2
    go_ret
    exact ⟨ret_val HS.out.symm, rfl⟩
  · obtain ⟨i, rfl⟩ := Int.eq_ofNat_of_zero_le (show 0 ≤ sym by omega)
    by_cases h1 : i < ks.length
    · have HS := Lib.hid (of_some L ks.length i h1)
      have g0 : (0 : Int) ≤ (i : Int) := by omega
      have g1 : (i : Int) < (ks.length : Int) := by omega
      go_enter Try.func31, Try.ntmps31
      go_wp2
      go_ret
      exact ⟨ret_val HS.out.symm, rfl⟩
    · have HS := Lib.hid (of_none L ks.length i (by omega))
      have g0 : (0 : Int) ≤ (i : Int) := by omega
      have g1 : (ks.length : Int) ≤ (i : Int) := by omega
      go_enter Try.func31, Try.ntmps31
      go_wp2
      go_ret
      exact ⟨ret_val HS.out.symm, rfl⟩

theorem of_nil (sym : Int) (w : World) :
    Calls Try.prog 31 #[.pointer none, .int .i64 sym] w fun e w' => e = .returned (.pointer none) ∧ w = w' := by
  go_enter Try.func31, Try.ntmps31
  go_wp2
  go_ret
  exact ⟨rfl, rfl⟩

theorem any_hit (t : Int) (ks : List Kn) (k : Nat) (h : k < ks.length) (h1 : tooLate t (ks.getD k Kn.zero) = true) : (ks.drop k).any (tooLate t) = true := by
  simp [List.getD, h] at h1
  rw [List.drop_eq_getElem_cons h, List.any_cons, h1]; rfl
theorem any_miss (t : Int) (ks : List Kn) (k : Nat) (h : k < ks.length) (h1 : tooLate t (ks.getD k Kn.zero) = false) : (ks.drop k).any (tooLate t) = (ks.drop (k + 1)).any (tooLate t) := by
  simp [List.getD, h] at h1
  rw [List.drop_eq_getElem_cons h, List.any_cons, h1]; rfl

set_option maxHeartbeats 2000000 in
theorem late_any (P L cap : Nat) (sy : List Sym) (ks : List Kn) (seq tick t : Int) (w : World) (h : PW w P L cap sy ks seq tick) :
    Calls Try.prog 61 #[.pointer (some ⟨P, 0, none⟩), .int .i64 t] w fun e w' => e = .returned (.bool (lateF ks tick t)) ∧ Below w.heap.size w w' := by
  have c0 : w.cell? ⟨P, 0, none⟩ = some (.slice (some ⟨L, 0, none⟩) ks.length cap) := h.head.cell 0 rfl
  have c2 : w.cell? ⟨P, 2, none⟩ = some (.int .i64 tick) := h.head.cell 2 rfl
  have hfew := h.few
  by_cases h0 : t < tick
  · have HS := Lib.hid (show lateF ks tick t = true by simp [lateF, h0])
    go_enter Try.func61, Try.ntmps61
    go_wp2
    go_ret
    exact ⟨ret_bool HS.out.symm, Below.refl _ _⟩
  · have HS := Lib.hid (show lateF ks tick t = ks.any (tooLate t) by simp [lateF, h0])
    go_enter Try.func61, Try.ntmps61
    go_wp2_with fail
    go_loopw [18] (fun i wr => ∃ k : Nat, k ≤ ks.length ∧ i = .int .i64 k ∧ Below w.heap.size w wr ∧ (ks.drop k).any (tooLate t) = ks.any (tooLate t)) (fun i _ => ks.length - (intOf i).toNat)
    case atStart => exact ⟨0, by omega, rfl, Below.refl _ _, rfl⟩
    case round =>
      obtain ⟨k, hk, rfl, hb, hf⟩ := hrel
      have HF := Lib.hid hf
      clear hf c0 c2
      by_cases hlt : k < ks.length
      · have hr := (h.below hb).range k hlt
        have HM := Lib.hid (any_miss t ks k hlt)
        have HH := Lib.hid (any_hit t ks k hlt)
        generalize ks.getD k Kn.zero = q at hr HM HH
        generalize sy.getD k noSym = s at hr
        have g0 : (0 : Int) ≤ (k : Int) := by omega
        have g1 : (k : Int) < (ks.length : Int) := by omega
        go_upto_region 5 with fail
        go_step
        iterate 3 go_step
        refine wpList_load_mid rfl 75 _ rfl L (k * 26) rfl (rowCells s q).toList _ hr Try.underlying75 rfl (by kernel_rfl) ?_
        iterate 3 go_step
        refine store_blk rfl 75 _ _ rfl wr.heap.size rfl (rowCells noSym Kn.zero) (rowCells s q) 75 (Blk.new _ _ _ _ rfl) rfl rfl (by kernel_rfl) (by simp [rowCells, Value.oneCell']) ?_
        have hq := (Blk.new wr (rowCells noSym Kn.zero) 75 wr.heap.size rfl).setCells (rowCells s q) rfl
        have hb' : Below w.heap.size w (World.setCells (wr.alloc (.cells (rowCells noSym Kn.zero) 75)) wr.heap.size 0 (rowCells s q).toList) := Blk.Below.setCells _ _ _ (hb.alloc hb.size _) hb.size
        change wpList _ _ _ _ _ (World.setCells (wr.alloc (.cells (rowCells noSym Kn.zero) 75)) wr.heap.size 0 (rowCells s q).toList)
        generalize World.setCells (wr.alloc (.cells (rowCells noSym Kn.zero) 75)) wr.heap.size 0 (rowCells s q).toList = w1 at hq hb' ⊢
        have cd : w1.cell? ⟨wr.heap.size, 21, none⟩ = some (.int .i64 q.deadline) := hq.cell 21 rfl
        clear hq hr
        cases hd : (q.deadline != 0) with
        | true =>
          by_cases hdt : q.deadline < t
          · have HT := Lib.hid (HH.out (by simp only [tooLate, hd, hdt]; rfl))
            go_wp2
            go_ret
            exact ⟨ret_bool (by rw [HS.out, ← HF.out, HT.out]), hb'⟩
          · have HT := Lib.hid (HM.out (by simp only [tooLate, hd, hdt]; rfl))
            go_wp2
            go_roundw
            case rel => exact ⟨k + 1, by omega, by go_num, hb', by rw [← HT.out, HF.out]⟩
            case measure => simp [intOf]; omega
        | false =>
          have HT := Lib.hid (HM.out (by simp only [tooLate, hd]; rfl))
          go_wp2
          go_roundw
          case rel => exact ⟨k + 1, by omega, by go_num, hb', by rw [← HT.out, HF.out]⟩
          case measure => simp [intOf]; omega
      · have HX := Lib.hid (show ks.any (tooLate t) = false by rw [← HF.out, List.drop_eq_nil_of_le (by omega)]; rfl)
        go_wp2
        go_ret
        exact ⟨ret_bool (by rw [HS.out, HX.out]), hb⟩
end Go.Proofs.Ytggkhnmhhifniaa.Watch
