/- config.all: are all numbers from lo to hi? -/
import Derived.Test.YtggkhnmhhifniaaKit
namespace Go.Proofs.Ytggkhnmhhifniaa.All
open Go.RowKit Go.Proofs.Ytggkhnmhhifniaa.Kit

def bad (lo hi n : Int) : Bool := decide (n < lo) || decide (hi < n)

theorem bad_any (n lo hi : Int) (pl ph : Addr) (w : World) (hl : w.cell? pl = some (.int .i64 lo)) (hh : w.cell? ph = some (.int .i64 hi)) :
    Calls Try.prog 79 #[.int .i64 n, .pointer (some pl), .pointer (some ph)] w fun e w' => e = .returned (.bool (bad lo hi n)) ∧ w = w' := by
  by_cases h1 : n < lo
  · go_enter Try.func79, Try.ntmps79
    go_wp2
    go_ret
    exact ⟨by simp [bad, h1], rfl⟩
  · by_cases h2 : hi < n
    · go_enter Try.func79, Try.ntmps79
      go_wp2
      go_ret
      exact ⟨by simp [bad, h2], rfl⟩
    · go_enter Try.func79, Try.ntmps79
      go_wp2
      go_ret
      exact ⟨by simp [bad, h1, h2], rfl⟩

def firstBad (lo hi : Int) : List Int → Nat → Int
  | [], _ => -1
  | n :: l, i => if bad lo hi n then i else firstBad lo hi l (i + 1)

theorem firstBad_hit (lo hi : Int) (l : List Int) (k i : Nat) (h : k < l.length) (hp : bad lo hi l[k] = true) : firstBad lo hi (l.drop k) i = i := by
  rw [List.drop_eq_getElem_cons h]
  simp only [firstBad, hp, if_true]
theorem firstBad_miss (lo hi : Int) (l : List Int) (k i : Nat) (h : k < l.length) (hp : bad lo hi l[k] = false) : firstBad lo hi (l.drop k) i = firstBad lo hi (l.drop (k + 1)) (i + 1) := by
  rw [List.drop_eq_getElem_cons h]
  simp [firstBad, hp]

set_option maxHeartbeats 1000000 in
theorem index_any (a : Option Addr) (cap : Nat) (l : List Int) (lo hi : Int) (bl bh : Nat) (w : World) (hm : l.length ≤ maxLen) (hn : Nums w a l)
    (hl : w.cell? ⟨bl, 0, none⟩ = some (.int .i64 lo)) (hh : w.cell? ⟨bh, 0, none⟩ = some (.int .i64 hi)) :
    Calls Try.prog 101 #[.slice a l.length cap, .func (.func 79) #[] #[.pointer (some ⟨bl, 0, none⟩), .pointer (some ⟨bh, 0, none⟩)]] w fun e w' =>
    e = .returned (.int .i64 (firstBad lo hi l 0)) ∧ w = w' := by
  unfold maxLen at hm
  go_enter Try.func101, Try.ntmps101
  go_wp2
  go_loop [8] (fun i => ∃ k : Nat, k ≤ l.length ∧ i = .int .i64 k ∧ firstBad lo hi (l.drop k) k = firstBad lo hi l 0) (fun i => l.length - (intOf i).toNat)
  case atStart => exact ⟨0, by omega, rfl, rfl⟩
  case round =>
    obtain ⟨k, hk, rfl, hf⟩ := hrel
    have HF := Lib.hid hf
    clear hf
    by_cases hlt : k < l.length
    · obtain ⟨b, off, rfl, _, hc⟩ := hn k hlt
      clear hn
      by_cases hp : bad lo hi l[k] = true
      · have HH := Lib.hid (firstBad_hit lo hi l k k hlt hp)
        go_wp2_with (go_at_call 79; refine (bad_any _ _ _ _ _ _ hl hh).mono ?_; rintro e w' ⟨rfl, rfl⟩)
        go_ret
        exact ⟨by rw [← HF.out, HH.out]; rfl, rfl⟩
      · have hp : bad lo hi l[k] = false := by simpa using hp
        have HH := Lib.hid (firstBad_miss lo hi l k k hlt hp)
        go_wp2_with (go_at_call 79; refine (bad_any _ _ _ _ _ _ hl hh).mono ?_; rintro e w' ⟨rfl, rfl⟩)
        go_round
        case rel => exact ⟨k + 1, by omega, by go_num, by rw [← HH.out, HF.out]⟩
        case measure => simp [intOf]; omega
    · go_wp2
      go_ret
      exact ⟨by rw [← HF.out, List.drop_eq_nil_of_le (by omega)]; rfl, rfl⟩

theorem firstBad_sign (lo hi : Int) (l : List Int) (i : Nat) : decide (0 ≤ firstBad lo hi l i) = !allIn lo hi l := by
  induction l generalizing i with
  | nil => rfl
  | cons n l ih =>
    simp only [firstBad, allIn, List.all_cons]
    split
    · rename_i h
      simp only [bad] at h
      simp [h]
    · rename_i h
      have h' : bad lo hi n = false := by simpa using h
      simp only [bad] at h'
      have ih' := ih (i + 1)
      unfold allIn at ih'
      rw [h', ih']
      rfl

theorem contains_any (a : Option Addr) (cap : Nat) (l : List Int) (lo hi : Int) (bl bh : Nat) (w : World) (hm : l.length ≤ maxLen) (hn : Nums w a l)
    (hl : w.cell? ⟨bl, 0, none⟩ = some (.int .i64 lo)) (hh : w.cell? ⟨bh, 0, none⟩ = some (.int .i64 hi)) :
    Calls Try.prog 78 #[.slice a l.length cap, .func (.func 79) #[] #[.pointer (some ⟨bl, 0, none⟩), .pointer (some ⟨bh, 0, none⟩)]] w fun e w' =>
    e = .returned (.bool (!allIn lo hi l)) ∧ w = w' := by
  go_enter Try.func78, Try.ntmps78
  go_wp2_with fail
  refine (index_any a cap l lo hi bl bh _ hm hn hl hh).mono ?_
  rintro e w' ⟨rfl, rfl⟩
  have hs := Lib.hid (firstBad_sign lo hi l 0)
  go_wp2
  go_ret
  exact ⟨by rw [← hs.out]; rfl, rfl⟩

theorem all_any (a : Option Addr) (cap : Nat) (l : List Int) (lo hi : Int) (w : World) (hm : l.length ≤ maxLen) (hn : Nums w a l) :
    Calls Try.prog 48 #[.int .i64 lo, .int .i64 hi, .slice a l.length cap] w fun e w' =>
    e = .returned (.bool (allIn lo hi l)) ∧ Below w.heap.size w w' := by
  go_enter Try.func48, Try.ntmps48
  go_wp2_with fail
  refine (contains_any a cap l lo hi w.heap.size (w.heap.size + 1) _ hm ?_ ?_ (cell_new _ _ _ _ _ _ (by simp) rfl)).mono ?_
  · exact hn.below (((Below.refl _ _).alloc (Nat.le_refl _) _).alloc (by simp) _)
  · rw [cell_old _ _ _ (by simp)]; exact cell_new _ _ _ _ _ _ rfl rfl
  · rintro e w' ⟨rfl, rfl⟩
    go_wp2
    go_ret
    exact ⟨by simp, ((Below.refl _ _).alloc (Nat.le_refl _) _).alloc (by simp) _⟩
end Go.Proofs.Ytggkhnmhhifniaa.All
