/- config.first: the fault of the first rule that does not hold. -/
import Derived.Test.YtggkhnmhhifniaaKit
namespace Go.Proofs.Ytggkhnmhhifniaa.First
open Go.RowKit Go.Proofs.Ytggkhnmhhifniaa.Kit

/-- A rule: the function, what it has captured, its fault, and whether it holds. -/
structure R where
  f : Nat
  c : Array Value
  e : Int
  is : Bool

def fault : List R → Int
  | [] => 0
  | r :: l => if r.is then fault l else r.e

theorem fault_hit (l : List R) (k : Nat) (h : k < l.length) (hp : l[k].is = false) : fault (l.drop k) = l[k].e := by
  rw [List.drop_eq_getElem_cons h]
  simp [fault, hp]
theorem fault_miss (l : List R) (k : Nat) (h : k < l.length) (hp : l[k].is = true) : fault (l.drop k) = fault (l.drop (k + 1)) := by
  rw [List.drop_eq_getElem_cons h]
  simp [fault, hp]

set_option maxHeartbeats 1000000 in
theorem first_any (b cap : Nat) (l : List R) (w : World) (hm : l.length ≤ maxLen) (hbl : b < w.heap.size)
    (hc : ∀ i, (h : i < l.length) → w.cell? ⟨b, i * 2, none⟩ = some (.func (.func l[i].f) #[] l[i].c) ∧ w.cell? ⟨b, i * 2 + 1, none⟩ = some (.int .i64 l[i].e))
    (hin : ∀ i, (h : i < l.length) → ∀ w, (callFunc l[i].f l[i].c).run Try.prog w = .ok (.enter l[i].f l[i].c) w)
    (hf : ∀ i, (h : i < l.length) → (∀ j, (h' : j < i) → l[j].is = true) → ∀ w', Below w.heap.size w w' → Calls Try.prog l[i].f l[i].c w' fun e w'' => e = .returned (.bool l[i].is) ∧ Below w'.heap.size w' w'') :
    Calls Try.prog 52 #[.slice (some ⟨b, 0, none⟩) l.length cap] w fun e w' =>
    e = .returned (.int .i64 (fault l)) ∧ Below w.heap.size w w' := by
  unfold maxLen at hm
  go_enter Try.func52, Try.ntmps52
  go_wp2
  go_loopw [7] (fun i wr => ∃ k : Nat, k ≤ l.length ∧ i = .int .i64 k ∧ Below w.heap.size w wr ∧ (∀ j, (h' : j < l.length) → j < k → l[j].is = true) ∧ fault (l.drop k) = fault l) (fun i _ => l.length - (intOf i).toNat)
  case atStart => exact ⟨0, by omega, rfl, Below.refl _ _, fun j _ h => absurd h (Nat.not_lt_zero _), rfl⟩
  case round =>
    obtain ⟨k, hk, rfl, hb, hall, hfl⟩ := hrel
    have HF := Lib.hid hfl
    have HALL := Lib.hid hall
    clear hfl hall
    by_cases hlt : k < l.length
    · have ⟨hc1, hc2⟩ := hc k hlt
      rw [← hb.cell (p := ⟨b, _, none⟩) hbl] at hc1 hc2
      have hcall := Lib.hid (hf k hlt (fun j h' => HALL.out j (by omega) h') (wr.alloc (.cells #[.func (.func l[k].f) #[] l[k].c, .int .i64 l[k].e] 107)) (hb.alloc hb.size _))
      have hin' := hin k hlt
      clear hc hf hin
      have HM := Lib.hid (fault_miss l k hlt)
      have HT := Lib.hid (fault_hit l k hlt)
      have HA : Hid (l[k].is = true → ∀ j, (h' : j < l.length) → j < k + 1 → l[j].is = true) := fun hp j h' h2 => by
        rcases Nat.lt_or_eq_of_le (Nat.le_of_lt_succ h2) with h3 | rfl
        · exact HALL.out j h' h3
        · exact hp
      clear HALL
      generalize l[k] = r at hc1 hc2 hcall HM HT HA hin'
      obtain ⟨f, c, e, is⟩ := r
      dsimp only at hc1 hc2 hin'
      have hlw : b < wr.heap.size := Nat.lt_of_lt_of_le hbl hb.size
      go_wp2_with fail
      refine hcall.out.mono ?_
      rintro e1 w1 ⟨rfl, hb1⟩
      have hb' : Below w.heap.size w w1 := (hb.alloc hb.size _).trans (hb1.mono (by have := hb.size; simp; omega))
      have hc3 : w1.cell? ⟨wr.heap.size, 1, none⟩ = some (.int .i64 e) := by
        rw [hb1.cell (p := ⟨wr.heap.size, 1, none⟩) (by simp)]
        exact cell_new _ _ _ _ _ _ rfl rfl
      clear hc1 hc2 hcall
      cases is
      · have HH := Lib.hid (HT.out rfl)
        go_wp2
        go_ret
        exact ⟨by rw [← HF.out, HH.out]; rfl, hb'⟩
      · have HH := Lib.hid (HM.out rfl)
        go_wp2
        go_roundw
        case rel => exact ⟨k + 1, by omega, by go_num, hb', HA.out (by simp), by rw [← HH.out, HF.out]⟩
        case measure => simp [intOf]; omega
    · go_wp2
      go_ret
      exact ⟨by rw [← HF.out, List.drop_eq_nil_of_le (by omega)]; rfl, hb⟩
end Go.Proofs.Ytggkhnmhhifniaa.First
