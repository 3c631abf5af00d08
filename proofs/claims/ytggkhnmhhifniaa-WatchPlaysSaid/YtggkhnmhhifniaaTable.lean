/- config.table: the fault of a session's table, and where. -/
import Derived.Test.YtggkhnmhhifniaaAll
namespace Go.Proofs.Ytggkhnmhhifniaa.Table
open Go.RowKit Go.Proofs.Ytggkhnmhhifniaa.Kit Go.Proofs.Ytggkhnmhhifniaa.All

/-- A row of pairs of numbers in memory. -/
def TabRow (w : World) (a : Option Addr) (l : List (Int × Int)) : Prop :=
  ∀ i, (h : i < l.length) → ∃ b off, a = some ⟨b, off, none⟩ ∧ b < w.heap.size ∧ w.cell? ⟨b, off + i * 2, none⟩ = some (.int .i64 l[i].1) ∧ w.cell? ⟨b, off + i * 2 + 1, none⟩ = some (.int .i64 l[i].2)
theorem TabRow.below {w w' : World} {a : Option Addr} {l : List (Int × Int)} (h : TabRow w a l) (hb : Below w.heap.size w w') : TabRow w' a l := by
  intro i hi
  obtain ⟨b, off, ha, hl, hc1, hc2⟩ := h i hi
  exact ⟨b, off, ha, Nat.lt_of_lt_of_le hl hb.size, by rw [hb.cell (p := ⟨b, _, none⟩) hl]; exact hc1, by rw [hb.cell (p := ⟨b, _, none⟩) hl]; exact hc2⟩

def late (last t : Int) : Bool := decide (t ≤ last) || decide (1125899906842624 < t)

def tabFault : List (Int × Int) → Int → Nat → Int × Int
  | [], _, _ => (0, 0)
  | (t, p) :: l, last, i => if late last t then (9, (i : Int)) else if allIn 0 2 [p] then tabFault l t (i + 1) else (10, (i : Int))

def tableF (l : List (Int × Int)) : Int × Int := if allIn 1 20 [(l.length : Int)] then tabFault l (-1) 0 else (9, 0)

theorem tab_late (l : List (Int × Int)) (k : Nat) (last : Int) (h : k < l.length) (h1 : late last l[k].1 = true) : tabFault (l.drop k) last k = (9, (k : Int)) := by
  rw [List.drop_eq_getElem_cons h]; simp [tabFault, h1]
theorem tab_phase (l : List (Int × Int)) (k : Nat) (last : Int) (h : k < l.length) (h1 : late last l[k].1 = false) (h2 : allIn 0 2 [l[k].2] = false) : tabFault (l.drop k) last k = (10, (k : Int)) := by
  rw [List.drop_eq_getElem_cons h]; simp [tabFault, h1, h2]
theorem tab_on (l : List (Int × Int)) (k : Nat) (last : Int) (h : k < l.length) (h1 : late last l[k].1 = false) (h2 : allIn 0 2 [l[k].2] = true) : tabFault (l.drop k) last k = tabFault (l.drop (k + 1)) l[k].1 (k + 1) := by
  rw [List.drop_eq_getElem_cons h]; simp [tabFault, h1, h2]

theorem ret_two {a b : Int} {x : Int × Int} (h : x = (a, b)) : Ending.returned (.tuple #[.int .i64 a, .int .i64 b]) = .returned (.tuple #[.int .i64 x.1, .int .i64 x.2]) := by rw [h]

set_option maxHeartbeats 2000000 in
theorem table_any (a : Option Addr) (cap : Nat) (l : List (Int × Int)) (w : World) (hm : l.length ≤ maxLen) (hr : TabRow w a l) :
    Calls Try.prog 50 #[.slice a l.length cap] w fun e w' => e = .returned (.tuple #[.int .i64 (tableF l).1, .int .i64 (tableF l).2]) ∧ Below w.heap.size w w' := by
  unfold maxLen at hm
  go_enter Try.func50, Try.ntmps50
  go_wp2_with fail
  refine (all_any _ _ [(l.length : Int)] _ _ _ (by simp [maxLen]) (nums_new _ _ _ _ _ rfl rfl)).mono ?_
  rintro e w0 ⟨rfl, hb0⟩
  have hb : Below w.heap.size w w0 := ((Below.refl _ _).alloc (Nat.le_refl _) _).trans (hb0.mono (by simp))
  clear hb0
  cases hl : allIn 1 20 [(l.length : Int)] with
  | false =>
    have HS := Lib.hid (show tableF l = (9, 0) by simp [tableF, hl])
    go_wp2
    go_ret2
    exact ⟨ret_two HS.out, hb⟩
  | true =>
  have HL := Lib.hid (show tableF l = tabFault l (-1) 0 by simp [tableF, hl])
  clear hl
  go_wp2_with fail
  go_loopw [4, 14] (fun la i wr => ∃ (k : Nat) (last : Int), k ≤ l.length ∧ i = .int .i64 k ∧ la = .int .i64 last ∧ Below w.heap.size w wr ∧ tabFault (l.drop k) last k = tabFault l (-1) 0) (fun _ i _ => l.length - (intOf i).toNat)
  case atStart => exact ⟨0, -1, by omega, rfl, rfl, hb, rfl⟩
  case round =>
    clear hb
    obtain ⟨k, last, hk, rfl, rfl, hb, hf⟩ := hrel
    have HF := Lib.hid hf
    clear hf
    by_cases hlt : k < l.length
    · obtain ⟨b, off, rfl, hbl, hc1, hc2⟩ := hr k hlt
      rw [← hb.cell (p := ⟨b, _, none⟩) hbl] at hc1 hc2
      have HA := Lib.hid (tab_late l k last hlt)
      have HB := Lib.hid (tab_phase l k last hlt)
      have HC := Lib.hid (tab_on l k last hlt)
      clear hr
      generalize l[k] = r at hc1 hc2 HA HB HC
      obtain ⟨t, p⟩ := r
      dsimp only at hc1 hc2
      by_cases h1 : t ≤ last
      · have HH := Lib.hid (HA.out (by simp [late, h1]))
        go_wp2
        go_ret2
        exact ⟨ret_two (by rw [HL.out, ← HF.out, HH.out]), hb.alloc hb.size _⟩
      · by_cases h2 : 1125899906842624 < t
        · have HH := Lib.hid (HA.out (by simp [late, h2]))
          go_wp2
          go_ret2
          exact ⟨ret_two (by rw [HL.out, ← HF.out, HH.out]), hb.alloc hb.size _⟩
        · have hla : late last t = false := by simp [late, h1, h2]
          have HB' := Lib.hid (HB.out hla)
          have HC' := Lib.hid (HC.out hla)
          clear HA HB HC hla
          have h1' : last < t := by omega
          have h2' : t ≤ 1125899906842624 := by omega
          clear h1 h2
          go_wp2_with fail
          refine (all_any _ _ [p] _ _ _ (by simp [maxLen]) (nums_new _ _ _ _ _ (by simp) rfl)).mono ?_
          rintro e w1 ⟨rfl, hb1⟩
          have hb' : Below w.heap.size w w1 := ((hb.alloc hb.size _).alloc (by have := hb.size; simp; omega) _).trans (hb1.mono (by have := hb.size; simp; omega))
          have hc3 : w1.cell? ⟨wr.heap.size, 0, none⟩ = some (.int .i64 t) := by
            rw [hb1.cell (p := ⟨wr.heap.size, 0, none⟩) (by simp; omega), cell_old _ _ _ (by simp)]
            exact cell_new _ _ _ _ _ _ rfl rfl
          clear hc1 hc2 hb1
          cases hp : allIn 0 2 [p] with
          | false =>
            have HH := Lib.hid (HB'.out hp)
            go_wp2
            go_ret2
            exact ⟨ret_two (by rw [HL.out, ← HF.out, HH.out]), hb'⟩
          | true =>
            have HH := Lib.hid (HC'.out hp)
            clear hp
            go_wp2
            go_roundw
            case rel => exact ⟨k + 1, t, by omega, by go_num, rfl, hb', by rw [← HH.out, HF.out]⟩
            case measure => simp [intOf]; omega
    · have hk' : k = l.length := by omega
      have HH : Hid (tabFault (l.drop k) last k = (0, 0)) := by rw [List.drop_eq_nil_of_le (by omega)]; rfl
      clear hr
      go_wp2
      go_ret2
      exact ⟨ret_two (by rw [HL.out, ← HF.out, HH.out]), hb⟩
end Go.Proofs.Ytggkhnmhhifniaa.Table
