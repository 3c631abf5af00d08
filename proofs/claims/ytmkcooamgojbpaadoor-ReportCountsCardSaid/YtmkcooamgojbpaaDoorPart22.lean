/- Parts of the proof: WLine. -/
import Derived.Test.YtmkcooamgojbpaaDoorPart21
import Derived.Test.YtmkcooamgojbpaaDoorPart4

/- words.Line: steps that are no frames. -/
namespace Go.Proofs.YtmkcooamgojbpaaDoor.Lines
open Go.RowKit Go.Proofs.YtmkcooamgojbpaaDoor.Kit Go.Proofs.YtmkcooamgojbpaaDoor.Blk Go.Proofs.YtmkcooamgojbpaaDoor.Dec Go.Proofs.YtmkcooamgojbpaaDoor.Words Go.Proofs.YtmkcooamgojbpaaDoor.Octets
attribute [local go_sem ↓] Go.wp_at_zero Go.wp_at_succ
set_option linter.unusedVariables false

/-- A line's row, to be joined. -/
theorem ln_row {N P : Nat} {ws : List (List UInt8)} {W : World} (h : LnS N P ws W) (h0 : 0 < ws.length) :
    ∃ g cap, Blk W P #[.slice (some ⟨g, 0, none⟩) ws.length cap] 160 ∧ ws.length ≤ cap ∧ g < W.heap.size ∧ ∀ j x, (ws.map strB)[j]? = some x → W.cell? ⟨g, 0 + j, none⟩ = some (.string x) := by
  obtain ⟨a, c, hv, hr⟩ := h.slice
  have hcap : ws.length ≤ c ∧ ∃ g, a = some ⟨g, 0, none⟩ := by
    have hl := strs_len ws
    rcases hr.2 with ⟨_, h1⟩ | ⟨g, cap, cur, he, _, _, hn, _⟩
    · omega
    · injection he with e1 e2 e3
      subst e1 e3
      exact ⟨by omega, g, rfl⟩
  obtain ⟨hcap, g, rfl⟩ := hcap
  rw [strs_len] at hv
  have hc := World.ownsRow.cells hr rfl
  refine ⟨g, c, hv, hcap, (World.ownsRow.lt hr g rfl).2, fun j x hx => ?_⟩
  rw [Nat.zero_add]
  have := hc j (.string x) (by
    simp only [strs, List.getElem?_map] at hx ⊢
    cases hw : ws[j]? with
    | none => rw [hw] at hx; cases hx
    | some y => rw [hw] at hx; simp at hx ⊢; exact hx)
  rwa [Addr.add_mid, Nat.zero_add] at this
theorem join_any (g cap : Nat) (ws : List (List UInt8)) (W : World) (hg : g < W.heap.size) (hc : ws.length ≤ cap) (hl : ws.length ≤ 10000) (hj : (joinW 32 ws).length ≤ 140737488355328)
    (hcells : ∀ j x, (ws.map strB)[j]? = some x → W.cell? ⟨g, 0 + j, none⟩ = some (.string x)) :
    Calls Tryd.prog 101 #[.slice (some ⟨g, 0, none⟩) ws.length cap, .string ⟨#[32]⟩] W fun e w' => e = .returned (.string (strB (joinW 32 ws))) ∧ Below W.heap.size W w' := by
  have e : Lib.join ((ws.map strB).map (·.data.toList)) ([32] : List UInt8) = joinW 32 ws := by
    have e1 : ((fun x : ByteArray => x.data.toList) ∘ strB) = id := funext strB_list
    rw [List.map_map, ← lib_join, e1, List.map_id]
  have h := Shelf.strings_Join g 0 cap (ws.map strB) ⟨#[32]⟩ W hcells hg (by simp; omega) (by simpa using hc) (by rw [show (⟨#[32]⟩ : ByteArray).data.toList = [32] from rfl, e]; exact hj)
  rw [show (⟨#[32]⟩ : ByteArray).data.toList = [32] from rfl, e, List.length_map] at h
  exact h
/-- What Line answers. -/
def LineIs (o : Option (List UInt8)) (w : World) (e : Ending) (w' : World) : Prop := e = .returned (.tuple #[.string (strB (o.getD [])), .int .i64 (if o.isSome = true then 0 else 1)]) ∧ Below w.heap.size w w'
def stepV (k y v : Int) (a : Option Addr) (n c : Nat) : Array Value := #[.int .i64 k, .int .i64 y, .int .i64 v, .slice a n c]
theorem line_bad (k y v : Int) (a : Option Addr) (n c : Nat) (w : World) (hr : rightZ k y v n = false) :
    Calls Tryd.prog 52 #[.agg (stepV k y v a n c)] w (LineIs none w) := by
  have HR := Lib.hid hr
  clear hr
  unfold stepV
  go_enter Tryd.func52, Tryd.ntmps52
  go_wp2_with fail
  refine (sright_any k y v a n c _).mono ?_
  rintro e w1 ⟨rfl, hb⟩
  have HB := Lib.hid (((Below.refl w.heap.size w).alloc (Nat.le_refl _) _).trans (hb.mono (by simp)))
  clear hb
  rw [HR.out]
  go_wp2_with fail
  go_ret2
  exact ⟨rfl, HB.out⟩
set_option maxHeartbeats 2000000 in
set_option maxRecDepth 20000 in
theorem line_tick (v : Int) (h0 : -9223372036854775808 ≤ v) (h1 : v ≤ 9223372036854775807) (w : World) :
    Calls Tryd.prog 52 #[.agg (stepV 2 0 v none 0 0)] w (LineIs (some ([116, 105, 99, 107] ++ 32 :: decB v)) w) := by
  have HJ := Lib.hid (show joinW 32 [[116, 105, 99, 107], decB v] = [116, 105, 99, 107] ++ 32 :: decB v from rfl)
  have HJL := Lib.hid (show (joinW 32 [[116, 105, 99, 107], decB v]).length ≤ 140737488355328 by have := dec_len h0 h1; simp [joinW]; omega)
  have HR := Lib.hid (show rightZ 2 0 v 0 = true from rfl)
  unfold stepV
  go_enter Tryd.func52, Tryd.ntmps52
  go_wp2_with fail
  refine (sright_any 2 0 v none 0 0 _).mono ?_
  rintro e w1 ⟨rfl, hb⟩
  have HB := Lib.hid (((Below.refl w.heap.size w).alloc (Nat.le_refl _) (.cells (stepV 2 0 v none 0 0) 42)).trans (hb.mono (by simp)))
  have HS := Lib.hid ((Blk.new w (stepV 2 0 v none 0 0) 42 w.heap.size rfl).below hb (by simp))
  have hsz : w.heap.size < w1.heap.size := HS.out.lt
  clear hb
  rw [HR.out]
  have c0 : w1.cell? ⟨w.heap.size, 0, none⟩ = some (.int .i64 2) := HS.out.cell 0 rfl
  go_wp2_with fail
  refine (put_any w1.heap.size w1.heap.size (Nat.le_refl _) [] [[116, 105, 99, 107]] (by decide) (by decide) (by decide) (w1.heap.size + 1) _ _ (by simp; omega) ((br_new _ _ rfl).alloc _) (Blk.new _ _ _ _ (by simp))).mono ?_
  rintro e w2 ⟨rfl, h1, h2⟩
  have HL2 := Lib.hid (show LnS w1.heap.size w1.heap.size [[116, 105, 99, 107]] w2 from h1)
  have HB2 := Lib.hid (show Below w1.heap.size w1 w2 from (((Below.refl _ _).alloc (Nat.le_refl _) _).alloc (by simp) _).trans h2.bel)
  clear h1 h2 c0
  have hsz2 : w1.heap.size ≤ w2.heap.size := HB2.out.size
  have c2 : w2.cell? ⟨w.heap.size, 2, none⟩ = some (.int .i64 v) := (HS.out.below HB2.out hsz).cell 2 rfl
  generalize hN : w1.heap.size = N at HL2 HB2 hsz hsz2 ⊢
  go_wp2_with fail
  refine (nums_any N N (Nat.le_refl _) [[116, 105, 99, 107]] (by simp) [v] (by simp) (fun n hn => by rw [List.mem_singleton] at hn; subst hn; exact ⟨h0, h1⟩) w2.heap.size _ _ (by simp; omega) (HL2.out.alloc _) (Blk.new _ _ _ _ rfl)).mono ?_
  rintro e w3 ⟨rfl, h1, h2⟩
  obtain ⟨g, cap, hv, hc, hg, hcells⟩ := ln_row h1 (by simp)
  have c3 : w3.cell? ⟨N, 0, none⟩ = some (.slice (some ⟨g, 0, none⟩) 2 cap) := hv.cell 0 rfl
  have HJN := Lib.hid (join_any g cap [[116, 105, 99, 107], decB v] w3 hg hc (by simp) HJL.out hcells)
  have HB3 := Lib.hid (show Below w.heap.size w w3 from HB.out.trans ((HB2.out.trans (((Below.refl _ _).alloc hsz2 _).trans h2.bel)).mono (by omega)))
  clear h1 h2 c2 hv hc hg hcells HL2 HB2 HS
  go_wp2_with fail
  refine HJN.out.mono ?_
  rintro e w4 ⟨rfl, hb4⟩
  have HB4 := Lib.hid (HB3.out.trans (hb4.mono HB3.out.size))
  clear hb4
  go_wp2_with fail
  go_ret2
  exact ⟨by rw [HJ.out]; rfl, HB4.out⟩
end Go.Proofs.YtmkcooamgojbpaaDoor.Lines
