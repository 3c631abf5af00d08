/- damperlaw32.light: are numbers such that they can be put together? Only what is used of it: at most 120 messages. -/
import Derived.Test.YtggkhnmhhifniaaWatchNils
namespace Go.Proofs.Ytggkhnmhhifniaa.Watch
open Go.RowKit Go.Proofs.Ytggkhnmhhifniaa.Kit Go.Proofs.Ytggkhnmhhifniaa.Blk Go.Proofs.Ytggkhnmhhifniaa.Symbol Go.Proofs.Ytggkhnmhhifniaa.Check
attribute [local go_sem ↓] Go.wp_at_zero Go.wp_at_succ

/-- A row of messages in memory. -/
def MsgRow (w : World) (a : Option Addr) (l : List Msg) : Prop :=
  ∀ i, (h : i < l.length) → ∃ b off, a = some ⟨b, off, none⟩ ∧ b < w.heap.size ∧ ∀ (j : Nat) (v : Value), l[i].cells[j]? = some v → w.cell? ⟨b, off + i * 9 + j, none⟩ = some v
theorem MsgRow.below {w w' : World} {a : Option Addr} {l : List Msg} (h : MsgRow w a l) (hb : Below w.heap.size w w') : MsgRow w' a l := by
  intro i hi
  obtain ⟨b, off, ha, hl, hc⟩ := h i hi
  exact ⟨b, off, ha, Nat.lt_of_lt_of_le hl hb.size, fun j v hv => by rw [hb.cell (p := ⟨b, _, none⟩) hl]; exact hc j v hv⟩

theorem light07_any (c : Cfg) (sa ta : Option Addr) (sc tc : Nat) (w : World) :
    Calls Try.prog 20 #[.agg (c.cells sa ta sc tc)] w fun e w' => e = .returned (.bool (decide ((c.syms.length : Int) ≤ 20) && decide ((c.tab.length : Int) ≤ 40))) ∧ Below w.heap.size w w' := by
  unfold Cfg.cells
  by_cases h1 : (c.syms.length : Int) ≤ 20
  · by_cases h2 : (c.tab.length : Int) ≤ 40
    · have HS := Lib.hid (show (decide ((c.syms.length : Int) ≤ 20) && decide ((c.tab.length : Int) ≤ 40)) = true by simp [h1, h2])
      go_enter Try.func20, Try.ntmps20
      go_wp2
      go_ret
      exact ⟨ret_bool HS.out.symm, (Below.refl _ _).alloc (Nat.le_refl _) _⟩
    · go_enter Try.func20, Try.ntmps20
      go_wp2
      go_ret
      exact ⟨ret_bool (by simp; omega), (Below.refl _ _).alloc (Nat.le_refl _) _⟩
  · have HS := Lib.hid (show (decide ((c.syms.length : Int) ≤ 20) && decide ((c.tab.length : Int) ≤ 40)) = false by simp [h1])
    go_enter Try.func20, Try.ntmps20
    go_wp2
    go_ret
    exact ⟨ret_bool HS.out.symm, (Below.refl _ _).alloc (Nat.le_refl _) _⟩

def LightIs (n : Nat) (e : Ending) : Prop := ∃ b : Bool, e = .returned (.bool b) ∧ (b = true → n ≤ 120)
theorem light_no (n : Nat) : LightIs n (.returned (.bool false)) := ⟨false, rfl, fun h => by cases h⟩
theorem light_yes (n : Nat) (h : n ≤ 120) : LightIs n (.returned (.bool true)) := ⟨true, rfl, fun _ => h⟩

set_option maxRecDepth 20000 in
set_option maxHeartbeats 4000000 in
theorem light_any (c : Cfg) (sa ta : Option Addr) (sc tc : Nat) (a : Option Addr) (cap : Nat) (l : List Msg) (w : World) (hm : MsgRow w a l) :
    Calls Try.prog 7 #[.agg (c.cells sa ta sc tc), .slice a l.length cap] w fun e w' => LightIs l.length e ∧ Below w.heap.size w w' := by
  have hb0 := Lib.hid (show Below w.heap.size w (w.alloc (.cells (c.cells sa ta sc tc) 27)) from (Below.refl _ _).alloc (Nat.le_refl _) _)
  have HL := light07_any c sa ta sc tc
  have HL := Lib.hid HL
  unfold Cfg.cells at hb0 HL ⊢
  go_enter Try.func7, Try.ntmps7
  go_wp2_with fail
  refine (HL.out _).mono ?_
  rintro e w1 ⟨rfl, hb1⟩
  have HB1 := Lib.hid (hb0.out.trans (hb1.mono hb0.out.size))
  clear hb1 hb0 HL
  generalize (decide ((c.syms.length : Int) ≤ 20) && decide ((c.tab.length : Int) ≤ 40)) = g
  cases g with
  | false =>
    go_wp2
    go_ret
    exact ⟨light_no _, HB1.out⟩
  | true =>
  by_cases hl : 120 < (l.length : Int)
  · go_wp2
    go_ret
    exact ⟨light_no _, HB1.out⟩
  have hl' : (l.length : Int) ≤ 120 := by omega
  have HLEN := Lib.hid hl'
  clear hl
  go_wp2_with fail
  go_loopw [5] (fun i wr => ∃ k : Nat, k ≤ l.length ∧ i = .int .i64 k ∧ w1 = wr) (fun i _ => l.length - (intOf i).toNat)
  case atStart => exact ⟨0, by omega, rfl, rfl⟩
  case round =>
    obtain ⟨k, hk, rfl, rfl⟩ := hrel
    by_cases hlt : k < l.length
    · obtain ⟨b, off, rfl, hbl, hc⟩ := hm.below HB1.out k hlt
      generalize l[k] = m at hc
      have m_seq : w1.cell? ⟨b, off + k * 9 + 2, none⟩ = some (.int .i64 m.seq) := hc 2 _ rfl
      have m_tick : w1.cell? ⟨b, off + k * 9 + 3, none⟩ = some (.int .i64 m.tick) := hc 3 _ rfl
      have m_qty : w1.cell? ⟨b, off + k * 9 + 7, none⟩ = some (.int .i64 m.qty) := hc 7 _ rfl
      clear hc
      have i0 : (0 : Int) ≤ (k : Int) := by omega
      have i1 : (k : Int) < (l.length : Int) := by omega
      go_wp2
      all_goals first
        | (go_ret; exact ⟨light_no _, HB1.out⟩)
        | (go_roundw
           case rel => exact ⟨k + 1, by omega, by go_num, by trivial⟩
           case measure => simp [intOf]; omega)
    · have i1 : (l.length : Int) ≤ (k : Int) := by omega
      go_wp2
      go_ret
      exact ⟨light_yes _ (by have := HLEN.out; omega), HB1.out⟩
end Go.Proofs.Ytggkhnmhhifniaa.Watch
