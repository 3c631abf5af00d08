/- The walk of damperlaw37.DrillThrows: it returns true, and writes nothing that was there. -/
import Derived.Test.YtjjglddhlloodaaAlive37
import Derived.Deep.RegionHeld3
import Derived.Deep.DrawnRows
namespace Go.Proofs.Ytjjglddhlloodaa.Throws
open Go.RowKit Go.Proofs.Ytjjglddhlloodaa.Plain Go.Proofs.Ytjjglddhlloodaa.Dice Go.Proofs.Ytjjglddhlloodaa.Alive37
attribute [local go_sem ↓] Go.wp_at_zero Go.wp_at_succ

set_option maxHeartbeats 2000000 in
theorem walk (x : Int) (a : Option Addr) (len cap : Nat) (zs : List Int) (w : World)
    (hc : ∀ i, i < len → ∃ b off, a = some ⟨b, off, none⟩ ∧ b < w.heap.size ∧ w.cell? ⟨b, off + i, none⟩ = some (.int .i64 (zs.getD i 0))) :
    Calls Try.prog 3 #[.int .u64 x, .slice a len cap] w fun e w' => e = .returned (.bool true) ∧ Below w.heap.size w w' := by
  by_cases h60 : (60 : Int) < (len : Int)
  · go_enter Try.func3, Try.ntmps3
    go_wp2_with (go_at_call 9; refine (alive _).mono ?_; rintro e w' ⟨rfl, hb⟩)
    go_ret
    exact ⟨rfl, hb⟩
  · go_enter Try.func3, Try.ntmps3
    go_wp2_with fail
    refine (new_any x w).mono ?_
    rintro e w' ⟨rfl, rfl⟩
    go_wp2_with fail
    go_loopw [8] (fun i wr => ∃ (k : Nat) (y : Int), k ≤ len ∧ i = .int .i64 k ∧ Below w.heap.size w wr ∧ w.heap.size + 1 < wr.heap.size ∧ wr.cell? ⟨w.heap.size, 0, none⟩ = some (.int .u64 y) ∧ wr.cell? ⟨w.heap.size + 1, 0, none⟩ = some (.int .u64 y) ∧
       wr.frozen? ⟨w.heap.size, 0, none⟩ = false ∧ wr.frozen? ⟨w.heap.size + 1, 0, none⟩ = false) (fun i _ => len - (intOf i).toNat)
    case atStart =>
      refine ⟨0, x, by omega, rfl, ((Below.refl _ _).alloc (Nat.le_refl _) _).alloc (by simp) _, by simp, ?_, ?_, by simp, by simp⟩
      · rw [cell_old _ _ _ (by simp)]; exact cell_new _ _ _ _ _ _ rfl rfl
      · exact cell_new _ _ _ _ _ _ (by simp) rfl
    case round =>
      obtain ⟨k, y, hk, rfl, hb, hsz, hd, hr, hfd, hfr⟩ := hrel
      by_cases hlt : k < len
      · obtain ⟨b, off, rfl, hbl, hci⟩ := hc k hlt
        rw [← hb.cell (p := ⟨b, _, none⟩) hbl] at hci
        clear hc
        have hne0 : w.heap.size ≠ b := by omega
        have hne1 : w.heap.size + 1 ≠ b := by omega
        generalize hz : zs.getD k 0 = z at hci
        clear hz
        have g0 : (0 : Int) ≤ (k : Int) := by omega
        have g1 : (k : Int) < (len : Int) := by omega
        have e1 : ∀ t : Int, (t != t) = false := by simp
        have e2 : ((0 : Int) != 0) = false := rfl
        go_wp2_with fail
        go_region_held3 (fun w' => w'.cell? ⟨b, off + k, none⟩ = some (.int .i64 z)) (go_keep)
          (first
           | (go_at_call_of 11 (Value.pointer none); refine (next_nil z _).mono ?_; rintro e w' ⟨rfl, rfl⟩)
           | (go_at_call 11; refine (next_any ⟨w.heap.size, 0, none⟩ y z _ ?_ ?_).mono ?_; (simp [*]); (simp [*]); rintro e w' ⟨rfl, rfl⟩)
           | (go_at_call 12; refine (ref_any ⟨w.heap.size + 1, 0, none⟩ y z _ ?_ ?_).mono ?_; (simp [*, World.cell?_setCell_far]); (simp [*]); rintro e w' ⟨rfl, rfl⟩))
        go_wp2
        go_roundw
        case rel =>
          refine ⟨k + 1, turnOr y z, by omega, by go_num, ?_, by simpa using hsz, ?_, ?_, by simpa using hfd, by simpa using hfr⟩
          · exact ((hb.setCell (Nat.le_refl _) _).setCell (by simp) _).drew
          · simp [World.cell?_setCell_far, World.cell?_setCell_same _ _ _ hd]
          · refine World.cell?_setCell_same (u := .int .u64 y) _ _ _ ?_
            simp [World.cell?_setCell_far, hr]
        case measure => simp [intOf]; omega
      · go_wp2_with fail
        refine (alive _).mono ?_; rintro e w' ⟨rfl, hb'⟩
        go_wp2_with fail
        go_ret
        exact ⟨rfl, hb.trans (hb'.mono hb.size)⟩
end Go.Proofs.Ytjjglddhlloodaa.Throws
