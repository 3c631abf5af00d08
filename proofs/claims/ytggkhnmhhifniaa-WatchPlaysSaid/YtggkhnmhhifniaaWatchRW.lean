/- The document's watch in memory, and what its functions do to it. -/
import Derived.Test.YtggkhnmhhifniaaWatchRef
import Derived.Test.YtggkhnmhhifniaaWatchPut2
import Derived.Test.YtggkhnmhhifniaaRefCheckW
import Derived.StillTailTactics
import Derived.Deep.RegionHeld3
import Derived.Deep.DrawnRows
namespace Go.Proofs.Ytggkhnmhhifniaa.Watch
open Go.RowKit Go.Proofs.Ytggkhnmhhifniaa.Kit Go.Proofs.Ytggkhnmhhifniaa.Blk Go.Proofs.Ytggkhnmhhifniaa.Symbol Go.Proofs.Ytggkhnmhhifniaa.Check
attribute [local go_sem ↓] Go.wp_at_zero Go.wp_at_succ

def rhead (c : Cfg) (sa ta : Option Addr) (sc tc M n cap : Nat) (seq tick : Int) : Array Value :=
  #[.slice sa c.syms.length sc, .slice ta c.tab.length tc, .int .i64 c.index, .int .i64 c.f0, .int .i64 c.f1, .int .i64 c.f2, .int .i64 c.h0, .int .i64 c.h1, .slice (some ⟨M, 0, none⟩) n cap, .int .i64 seq, .int .i64 tick]

structure RW (w : World) (Q M cap : Nat) (c : Cfg) (sa ta : Option Addr) (sc tc : Nat) (ks : List Kn) (seq tick : Int) : Prop where
  head : Blk w Q (rhead c sa ta sc tc M ks.length cap seq tick) 43
  row : ∀ i, i < ks.length → ∀ (j : Nat) (v : Value), (ks.getD i Kn.zero).cells[j]? = some v → w.cell? ⟨M, i * 10 + j, none⟩ = some v
  free : ∀ j, w.frozen? ⟨M, j, none⟩ = false
  len : c.syms.length = ks.length
  ne : Q ≠ M
  lt : M < w.heap.size
  few : ks.length ≤ 8
  syms : SymRow w sa c.syms
  apart : ∀ b off, sa = some ⟨b, off, none⟩ → b ≠ Q ∧ b ≠ M

section
variable {w w' : World} {Q M cap : Nat} {c : Cfg} {sa ta : Option Addr} {sc tc : Nat} {ks : List Kn} {seq tick : Int}
theorem RW.keep (h : RW w Q M cap c sa ta sc tc ks seq tick) (hs : w.heap.size ≤ w'.heap.size) (hq : w'.heap[Q]? = w.heap[Q]?) (hm : w'.heap[M]? = w.heap[M]?)
    (hb : ∀ b off, sa = some ⟨b, off, none⟩ → b < w.heap.size → w'.heap[b]? = w.heap[b]?) : RW w' Q M cap c sa ta sc tc ks seq tick :=
  ⟨by unfold Blk; rw [hq]; exact h.head, fun i hi j v hv => (World.cell?_of_block hm).trans (h.row i hi j v hv), fun j => (World.frozen?_of_block hm).trans (h.free j), h.len, h.ne, Nat.lt_of_lt_of_le h.lt hs, h.few,
    fun i hi => by
      obtain ⟨b, off, ha, hl, hc⟩ := h.syms i hi
      exact ⟨b, off, ha, Nat.lt_of_lt_of_le hl hs, fun j v hv => (World.cell?_of_block (hb b off ha hl)).trans (hc j v hv)⟩, h.apart⟩
theorem RW.drewN (h : RW w Q M cap c sa ta sc tc ks seq tick) (n : Nat) : RW (w.drewN n) Q M cap c sa ta sc tc ks seq tick := h.keep (Nat.le_refl _) rfl rfl (fun _ _ _ _ => rfl)
theorem _root_.Go.RowKit.Below.drewN {n : Nat} {a w : World} (h : Below n a w) (k : Nat) : Below n a (w.drewN k) := ⟨h.os, h.tape, h.output, h.size, h.block⟩
theorem RW.below (h : RW w Q M cap c sa ta sc tc ks seq tick) (hb : Below w.heap.size w w') : RW w' Q M cap c sa ta sc tc ks seq tick :=
  h.keep hb.size (hb.block _ h.head.lt) (hb.block _ h.lt) fun b _ _ hl => hb.block b hl
theorem RW.chg2 {d e : Nat} (h : RW w Q M cap c sa ta sc tc ks seq tick) (hb : Chg2 w.heap.size d e w w') (h1 : Q ≠ d) (h2 : Q ≠ e) (h3 : M ≠ d) (h4 : M ≠ e) (h5 : ∀ b off, sa = some ⟨b, off, none⟩ → b ≠ d ∧ b ≠ e) :
    RW w' Q M cap c sa ta sc tc ks seq tick :=
  h.keep hb.size (hb.block _ h.head.lt h1 h2) (hb.block _ h.lt h3 h4) fun b off ha hl => hb.block b hl (h5 b off ha).1 (h5 b off ha).2
theorem RW.drew (h : RW w Q M cap c sa ta sc tc ks seq tick) : RW w.drew Q M cap c sa ta sc tc ks seq tick := h.keep (Nat.le_refl _) rfl rfl (fun _ _ _ _ => rfl)
theorem RW.setSeq (h : RW w Q M cap c sa ta sc tc ks seq tick) (v : Int) : RW (w.setCell ⟨Q, 9, none⟩ (.int .i64 v)) Q M cap c sa ta sc tc ks v tick :=
  ⟨by have := h.head.set 9 (.int .i64 v); exact this, fun i hi j u hu => by rw [World.cell?_setCell_far _ _ _ _ (show Q ≠ M from h.ne)]; exact h.row i hi j u hu, fun j => by rw [World.frozen?_setCell]; exact h.free j,
    h.len, h.ne, by simpa [World.setCell] using h.lt, h.few, fun i hi => by
      obtain ⟨b, off, ha, hl, hc⟩ := h.syms i hi
      exact ⟨b, off, ha, by simpa [World.setCell] using hl, fun j v hv => by rw [World.cell?_setCell_far _ _ _ _ (show Q ≠ b from fun e => (h.apart b off ha).1 e.symm)]; exact hc j v hv⟩, h.apart⟩
theorem RW.setTick (h : RW w Q M cap c sa ta sc tc ks seq tick) (v : Int) : RW (w.setCell ⟨Q, 10, none⟩ (.int .i64 v)) Q M cap c sa ta sc tc ks seq v :=
  ⟨by have := h.head.set 10 (.int .i64 v); exact this, fun i hi j u hu => by rw [World.cell?_setCell_far _ _ _ _ (show Q ≠ M from h.ne)]; exact h.row i hi j u hu, fun j => by rw [World.frozen?_setCell]; exact h.free j,
    h.len, h.ne, by simpa [World.setCell] using h.lt, h.few, fun i hi => by
      obtain ⟨b, off, ha, hl, hc⟩ := h.syms i hi
      exact ⟨b, off, ha, by simpa [World.setCell] using hl, fun j v hv => by rw [World.cell?_setCell_far _ _ _ _ (show Q ≠ b from fun e => (h.apart b off ha).1 e.symm)]; exact hc j v hv⟩, h.apart⟩
theorem kn_size (k : Kn) : k.cells.size = 10 := rfl
theorem RW.store (h : RW w Q M cap c sa ta sc tc ks seq tick) (i : Nat) (hi : i < ks.length) (j : Nat) (hj : j < 10) (v : Value) (k' : Kn)
    (hk : k'.cells = (ks.getD i Kn.zero).cells.setIfInBounds j v) : RW (w.setCell ⟨M, i * 10 + j, none⟩ v) Q M cap c sa ta sc tc (ks.set i k') seq tick := by
  refine ⟨?_, ?_, ?_, ?_, h.ne, ?_, ?_, ?_, h.apart⟩
  · rw [List.length_set]; exact h.head.apart _ _ (fun e => h.ne e.symm)
  · intro i' hi' j' v' hv'
    rw [List.length_set] at hi'
    have hj' : j' < 10 := by
      have := (Array.getElem?_eq_some_iff.1 hv').1
      rw [kn_size] at this; exact this
    by_cases he : i' = i
    · subst he
      have e1 : (ks.set i' k').getD i' Kn.zero = k' := by simp [List.getD, hi]
      rw [e1, hk] at hv'
      by_cases hjj : j = j'
      · subst hjj
        have hv2 : v' = v := by
          rw [Array.getElem?_setIfInBounds] at hv'
          simp at hv'
          exact hv'.2.symm
        subst hv2
        exact World.cell?_setCell_same' _ _ _ (by rw [h.row i' hi' j _ (Array.getElem?_eq_getElem (by rw [kn_size]; exact hj))]; rfl)
      · rw [Array.getElem?_setIfInBounds, if_neg hjj] at hv'
        rw [World.cell?_setCell_other _ _ _ _ (by intro e; injection e with _ e2 _; omega)]
        exact h.row i' hi' j' v' hv'
    · have e1 : (ks.set i k').getD i' Kn.zero = ks.getD i' Kn.zero := by simp [List.getD, Ne.symm he]
      rw [e1] at hv'
      rw [World.cell?_setCell_other _ _ _ _ (by intro e; injection e with _ e2 _; omega)]
      exact h.row i' hi' j' v' hv'
  · intro j'; rw [World.frozen?_setCell]; exact h.free j'
  · rw [List.length_set]; exact h.len
  · simpa [World.setCell] using h.lt
  · rw [List.length_set]; exact h.few
  · intro i' hi'
    obtain ⟨b, off, ha, hl, hc⟩ := h.syms i' hi'
    exact ⟨b, off, ha, by simpa [World.setCell] using hl, fun j v hv => by rw [World.cell?_setCell_far _ _ _ _ (show M ≠ b from fun e => (h.apart b off ha).2 e.symm)]; exact hc j v hv⟩
end

set_option maxHeartbeats 2000000 in
theorem rlate_any (Q M cap : Nat) (c : Cfg) (sa ta : Option Addr) (sc tc : Nat) (ks : List Kn) (seq tick t : Int) (w : World) (h : RW w Q M cap c sa ta sc tc ks seq tick) :
    Calls Try.prog 70 #[.pointer (some ⟨Q, 0, none⟩), .int .i64 t] w fun e w' => e = .returned (.bool (lateF ks tick t)) ∧ w = w' := by
  have c8 : w.cell? ⟨Q, 8, none⟩ = some (.slice (some ⟨M, 0, none⟩) ks.length cap) := h.head.cell 8 rfl
  have c10 : w.cell? ⟨Q, 10, none⟩ = some (.int .i64 tick) := h.head.cell 10 rfl
  have hfew := h.few
  by_cases h0 : t < tick
  · have HS := Lib.hid (show lateF ks tick t = true by simp [lateF, h0])
    go_enter Try.func70, Try.ntmps70
    go_wp2
    go_ret
    exact ⟨ret_bool HS.out.symm, rfl⟩
  · have HS := Lib.hid (show lateF ks tick t = ks.any (tooLate t) by simp [lateF, h0])
    go_enter Try.func70, Try.ntmps70
    go_wp2_with fail
    go_loop [5] (fun i => ∃ k : Nat, k ≤ ks.length ∧ i = .int .i64 k ∧ Hid ((ks.drop k).any (tooLate t) = ks.any (tooLate t))) (fun i => ks.length - (intOf i).toNat)
    case atStart => exact ⟨0, by omega, rfl, Lib.hid rfl⟩
    case round =>
      obtain ⟨k, hk, rfl, HF⟩ := hrel
      by_cases hlt : k < ks.length
      · have HM := Lib.hid (any_miss t ks k hlt)
        have HH := Lib.hid (any_hit t ks k hlt)
        have r5 : w.cell? ⟨M, k * 10 + 5, none⟩ = some (.int .i64 (ks.getD k Kn.zero).deadline) := h.row k hlt 5 _ rfl
        generalize ks.getD k Kn.zero = q at r5 HM HH
        have g0 : (0 : Int) ≤ (k : Int) := by omega
        have g1 : (k : Int) < (ks.length : Int) := by omega
        cases hd : (q.deadline != 0) with
        | true =>
          by_cases hdt : q.deadline < t
          · have HT := Lib.hid (HH.out (by simp only [tooLate, hd, hdt]; rfl))
            go_wp2
            go_ret
            exact ⟨ret_bool (by rw [HS.out, ← HF.out, HT.out]), rfl⟩
          · have HT := Lib.hid (HM.out (by simp only [tooLate, hd, hdt]; rfl))
            go_wp2
            go_round
            case rel => exact ⟨k + 1, by omega, by go_num, Lib.hid (by rw [← HT.out, HF.out])⟩
            case measure => simp [intOf]; omega
        | false =>
          have HT := Lib.hid (HM.out (by simp only [tooLate, hd]; rfl))
          go_wp2
          go_round
          case rel => exact ⟨k + 1, by omega, by go_num, Lib.hid (by rw [← HT.out, HF.out])⟩
          case measure => simp [intOf]; omega
      · have HX := Lib.hid (show ks.any (tooLate t) = false by rw [← HF.out, List.drop_eq_nil_of_le (by omega)]; rfl)
        go_wp2
        go_ret
        exact ⟨ret_bool (by rw [HS.out, HX.out]), rfl⟩

def rfaultF (ks : List Kn) (seq tick : Int) (m : Msg) : Int :=
  if IntKind.i64.wrap (m.seq - 1) ≠ seq ∨ m.seq < 1 then 4 else if lateF ks tick m.tick = true then 15 else match ofF ks.length m.sym with
  | none => if m.kind = 2 ∨ m.kind = 9 then 0 else 5
  | some i => if m.kind = 3 then rtradeF (ks.getD i Kn.zero) m else 0
end Go.Proofs.Ytggkhnmhhifniaa.Watch
