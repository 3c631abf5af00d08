/- Parts of the proof: ShGrow, ShConcat, ShConcatW. -/
import Derived.Test.YtmkcooamgojbpaaGreatDoorPart22
import Derived.Shelf.Spec.SlicesGrow
import Derived.Deep.AppendLies

/- slices.Grow of a row of a sheet's numbers: the library's contract, laid here. -/
namespace Go.Proofs.YtmkcooamgojbpaaGreatDoor.Sheet
open Go.Shelf
def grow_ren : Go.Shelf.Ren := ⟨fun | 4 => 91 | n => n, fun | 22 => 60 | 25 => 107 | n => n, fun | n => n⟩
theorem lays_grow : Go.Proofs.Lays8.n4 Tryz.prog grow_ren := {
  mixed := by kernel_rfl
  f4 := ⟨Tryz.f91.name, by kernel_rfl, Tryz.func91.trans (congrArg some (by kernel_rfl))⟩
  t0 := Tryz.underlying0
  a0 := Tryz.isAgg0
  z0 := Tryz.sizeOf0
  v0 := Tryz.zeroValue0
  t3 := Tryz.underlying3
  a3 := Tryz.isAgg3
  z3 := Tryz.sizeOf3
  v3 := Tryz.zeroValue3
  t4 := Tryz.underlying4
  a4 := Tryz.isAgg4
  z4 := Tryz.sizeOf4
  v4 := Tryz.zeroValue4
  t9 := Tryz.underlying9
  a9 := Tryz.isAgg9
  z9 := Tryz.sizeOf9
  v9 := Tryz.zeroValue9
  t20 := Tryz.underlying20
  a20 := Tryz.isAgg20
  z20 := Tryz.sizeOf20
  v20 := Tryz.zeroValue20
  t22 := Tryz.underlying60
  a22 := Tryz.isAgg60
  z22 := Tryz.sizeOf60
  v22 := Tryz.zeroValue60 }
end Go.Proofs.YtmkcooamgojbpaaGreatDoor.Sheet

/- slices.Concat of rows of a sheet's numbers. -/
namespace Go.Proofs.YtmkcooamgojbpaaGreatDoor.Sheet
open Go.RowKit Go.Proofs.YtmkcooamgojbpaaGreatDoor.Kit Go.Proofs.YtmkcooamgojbpaaGreatDoor.Blk Go.Proofs.YtmkcooamgojbpaaGreatDoor.Words Go.Proofs.YtmkcooamgojbpaaGreatDoor.Octets
attribute [local go_sem ↓] Go.wp_at_zero Go.wp_at_succ
set_option linter.unusedVariables false

/-- A row of numbers that lies somewhere below M: its slice, and the numbers. -/
def NAt (M : Nat) (v : Value) (l : List (Bool × Addr)) (W : World) : Prop := ∃ g c, v = .slice (some ⟨g, 0, none⟩) l.length c ∧ g < M ∧ ∀ j u, (numL l)[j]? = some u → W.cell? ⟨g, j, none⟩ = some u
theorem NAt.below {M n : Nat} {v : Value} {l : List (Bool × Addr)} {W W' : World} (h : NAt M v l W) (hM : M ≤ n) (hb : Below n W W') : NAt M v l W' := by
  obtain ⟨g, c, h1, h2, h3⟩ := h
  exact ⟨g, c, h1, h2, fun j u hu => by rw [hb.cell (p := ⟨g, j, none⟩) (by show g < n; omega)]; exact h3 j u hu⟩
theorem NRow.at {w W : World} {v : Value} {l : List (Bool × Addr)} (h : NRow w v l W) (h0 : 0 < l.length) : NAt W.heap.size v l W := by
  obtain ⟨g, cap, rfl, -, -⟩ := World.ownsRow.form h.row h0
  refine ⟨g, cap, rfl, (World.ownsRow.lt h.row g rfl).2, fun j u hu => ?_⟩
  have := World.ownsRow.cells h.row rfl j u hu
  rwa [Addr.add_mid, Nat.zero_add] at this
def sumL (xs : List (Value × List (Bool × Addr))) : Nat := (xs.flatMap (·.2)).length
theorem sum_next {xs : List (Value × List (Bool × Addr))} {k : Nat} (h : k < xs.length) : sumL (xs.take (k + 1)) = sumL (xs.take k) + xs[k].2.length := by
  unfold sumL
  rw [List.take_succ_eq_append_getElem h, List.flatMap_append, List.length_append]
  simp
theorem sum_le {xs : List (Value × List (Bool × Addr))} (h : ∀ x ∈ xs, x.2.length ≤ 100) : sumL xs ≤ 100 * xs.length := by
  induction xs with
  | nil => simp [sumL]
  | cons x xs ih =>
    have h1 := h x List.mem_cons_self
    have h2 := ih fun y hy => h y (List.mem_cons_of_mem _ hy)
    simp only [sumL, List.flatMap_cons, List.length_append, List.length_cons] at h2 ⊢
    omega
end Go.Proofs.YtmkcooamgojbpaaGreatDoor.Sheet

/- slices.Concat of rows of a sheet's numbers: the walk. -/
namespace Go.Proofs.YtmkcooamgojbpaaGreatDoor.Sheet
open Go.Proofs Go.RowKit Go.Proofs.YtmkcooamgojbpaaGreatDoor.Kit Go.Proofs.YtmkcooamgojbpaaGreatDoor.Blk Go.Proofs.YtmkcooamgojbpaaGreatDoor.Words Go.Proofs.YtmkcooamgojbpaaGreatDoor.Octets
attribute [local go_sem ↓] Go.wp_at_zero Go.wp_at_succ
set_option linter.unusedVariables false

theorem numL_len (l : List (Bool × Addr)) : (numL l).length = l.length * 2 := by
  induction l with
  | nil => rfl
  | cons x l ih =>
    have h : (numC x).size = 2 := by unfold numC; split <;> rfl
    simp only [numL, List.flatMap_cons, List.length_append, List.length_cons] at ih ⊢
    rw [ih]
    simp [h]
    omega
theorem numL_one (l : List (Bool × Addr)) : ∀ u ∈ numL l, u.oneCell' = true := fun u hu => by
  obtain ⟨x, hx, h⟩ := List.mem_flatMap.1 hu
  unfold numC at h
  split at h <;> (simp at h; rcases h with rfl | rfl <;> rfl)
theorem NRow.pushes {w W W' : World} {v v' : Value} {r l : List (Bool × Addr)} (h : NRow w v r W) (hown : W'.ownsRow w.heap.size 107 2 v' (r.length + l.length) (numL r ++ numL l)) (hg : W.grownBy W' v.ownBlock) : NRow w v' (r ++ l) W' :=
  ⟨by rw [List.length_append, numL_app]; exact hown, h.bel.grown hg h.bel.size (fun k e => (row_from' h.row e).1)⟩
theorem sum_pos {xs : List (Value × List (Bool × Addr))} (h0 : 0 < xs.length) (h : ∀ x ∈ xs, 0 < x.2.length) : 0 < sumL xs := by
  cases xs with
  | nil => exact absurd h0 (by simp)
  | cons x xs =>
    have h1 := h x List.mem_cons_self
    simp only [sumL, List.flatMap_cons, List.length_append]
    omega
theorem grow_new (s : Nat) (h0 : 0 < s) (hs : s ≤ 1000) (w : World) :
    Calls Tryz.prog 91 #[.slice none 0 0, .int .i64 (s : Int)] w fun e w' => ∃ cp, e = .returned (.slice (some ⟨w.heap.size, 0, none⟩) 0 cp) ∧ NRow w (.slice (some ⟨w.heap.size, 0, none⟩) 0 cp) [] w' := by
  obtain ⟨i0, hi0, hz0, hz1, hz2⟩ := info_parts infoNum
  refine (show Calls Tryz.prog 91 _ _ _ from Any8.slices_Grow_grow lays_grow i0 (.agg #[.pointer none, .pointer none]) hi0 hz0 (by rw [hz1]; decide) none 0 0 s [] w (Nat.le_refl _) (by omega) (by rw [hz2]; omega) (by omega) (by simp) (fun _ => rfl) (fun a h => by cases h)).mono ?_
  rintro e w' ⟨rfl, rfl⟩
  have hge := grownCap_ge w (0 + s) 0 (grow_ren.t 25)
  have hle := grownCap_le_maxLen w (0 + s) 0 (grow_ren.t 25) (by unfold maxLen; omega)
  generalize grownCap w (0 + s) 0 (grow_ren.t 25) = cp at hge hle ⊢
  exact ⟨cp, rfl, World.ownsRow_made (base := w.heap.size) (size := 2) w.drew _ cp (Nat.le_refl _) hle (by
    rw [Array.size_append, Array.size_append, size_zeroCells, size_zeroCells]
    show 0 + _ * 2 + _ * 2 = _
    omega), (Below.refl _ _).drew.alloc (Nat.le_refl _) _⟩
set_option maxRecDepth 20000 in
set_option maxHeartbeats 4000000 in
theorem concat_any (B off c : Nat) (xs : List (Value × List (Bool × Addr))) (h0 : 0 < xs.length) (hl : xs.length ≤ 10) (w : World) (hB : B < w.heap.size)
    (hc : ∀ j, (h : j < xs.length) → w.cell? ⟨B, off + j, none⟩ = some xs[j].1) (hx : ∀ x ∈ xs, NAt w.heap.size x.1 x.2 w ∧ 0 < x.2.length ∧ x.2.length ≤ 100) :
    Calls Tryz.prog 60 #[.slice (some ⟨B, off, none⟩) xs.length c] w fun e w' => ∃ v, e = .returned v ∧ NRow w v (xs.flatMap (·.2)) w' := by
  obtain ⟨i0, hi0, hz0, hz1, hz2⟩ := info_parts infoNum
  have HC := Lib.hid hc
  have HX := Lib.hid hx
  have HSL := Lib.hid (sum_le (fun x h => (hx x h).2.2))
  clear hc hx
  go_enter Tryz.func60, Tryz.ntmps60
  go_wp2_with fail
  go_loopw [3, 11] (fun s i wr => wr = w ∧ ∃ k : Nat, k ≤ xs.length ∧ i = .int .i64 (k : Int) ∧ s = .int .i64 (sumL (xs.take k) : Int)) (fun _ i _ => xs.length - (intOf i).toNat)
  case atStart => exact ⟨rfl, 0, by omega, rfl, rfl⟩
  case round =>
    obtain ⟨hwr, k, hk, rfl, rfl⟩ := hrel
    obtain rfl := hwr.symm
    have hsk : sumL (xs.take k) ≤ 1000 := by
      have := sum_le (xs := xs.take k) (fun x h => (HX.out x (List.mem_of_mem_take h)).2.2)
      rw [List.length_take] at this; omega
    by_cases hlt : k < xs.length
    · have hkl : (k : Int) < (xs.length : Int) := by omega
      obtain ⟨⟨g, cp, hv, -, -⟩, h1, h2⟩ := HX.out _ (List.getElem_mem hlt)
      have cj : w.cell? ⟨B, off + k, none⟩ = some (.slice (some ⟨g, 0, none⟩) xs[k].2.length cp) := by rw [← hv]; exact HC.out k hlt
      have HN := Lib.hid (sum_next hlt)
      clear hv
      generalize xs[k].2.length = n at cj HN h1 h2
      generalize sumL (xs.take k) = s at HN hsk ⊢
      have g1 : ¬ ((s : Int) + (n : Int) < 0) := by omega
      go_wp2_with fail
      go_roundw
      case rel => exact ⟨trivial, k + 1, by omega, by go_num, by rw [HN.out]; go_num⟩
      case measure => simp [intOf]; omega
    · obtain rfl : k = xs.length := by omega
      rw [List.take_length] at hsk ⊢
      have hs0 : 0 < sumL xs := sum_pos h0 (fun x h => (HX.out x h).2.1)
      have HG := Lib.hid (grow_new (sumL xs) hs0 hsk w)
      generalize sumL xs = s at HG ⊢
      go_wp2_with fail
      refine HG.out.mono ?_
      rintro e w1 ⟨cp, rfl, hr1⟩
      have HR1 := Lib.hid hr1
      clear hr1 HG
      go_wp2_with fail
      go_loopw [6, 27] (fun o i wr => ∃ k : Nat, k ≤ xs.length ∧ i = .int .i64 (k : Int) ∧ NRow w o ((xs.take k).flatMap (·.2)) wr) (fun _ i _ => xs.length - (intOf i).toNat)
      case atStart => exact ⟨0, by omega, rfl, HR1.out⟩
      case round =>
        obtain ⟨k, hk, rfl, hrow⟩ := hrel
        obtain ⟨a, cp2, rfl⟩ := hrow.form
        have HR := Lib.hid hrow
        clear hrow HR1
        by_cases hlt : k < xs.length
        · have hkl : (k : Int) < (xs.length : Int) := by omega
          obtain ⟨hat, h1, h2⟩ := HX.out _ (List.getElem_mem hlt)
          have hat2 := hat.below (Nat.le_refl _) HR.out.bel
          obtain ⟨g, cq, hv, hg, hcells⟩ := hat2
          have cj : wr.cell? ⟨B, off + k, none⟩ = some (.slice (some ⟨g, 0, none⟩) xs[k].2.length cq) := by rw [HR.out.bel.cell (p := ⟨B, off + k, none⟩) hB, ← hv]; exact HC.out k hlt
          have HN := Lib.hid (show (xs.take (k + 1)).flatMap (·.2) = (xs.take k).flatMap (·.2) ++ xs[k].2 by rw [List.take_succ_eq_append_getElem hlt, List.flatMap_append]; simp)
          have hrl : ((xs.take k).flatMap (·.2)).length ≤ 1000 := by
            have := sum_le (xs := xs.take k) (fun x h => (HX.out x (List.mem_of_mem_take h)).2.2)
            rw [List.length_take] at this
            unfold sumL at this; omega
          have HCE := Lib.hid hcells
          have HGL := Lib.hid (Nat.lt_of_lt_of_le hg HR.out.bel.size)
          clear hat hv hcells hg
          generalize xs[k].2 = l at cj HN h1 h2 HCE
          generalize (xs.take k).flatMap (·.2) = r at HR HN hrl
          have H1 := Lib.hid h1
          clear h1
          go_wp2_with (at_builtin; refine wpList_append_lies _ (by rfl) _ _ _ (by rfl) w.heap.size 107 i0 (.agg #[.pointer none, .pointer none]) 2 16 Tryz.underlying60 hi0 hz0 hz1 hz2 (by rfl) (by decide) _ r.length (numL r) (by rfl) HR.out.row ⟨g, 0, none⟩ l.length cq (numL l) (by rfl) (numL_len l) (fun j u hu => by rw [Addr.add_mid, Nat.zero_add]; exact HCE.out j u hu) (numL_one l) H1.out (by unfold maxLen; omega) (by omega) HR.out.bel.size wr.heap.size (by rfl) ?_; intro g2 cap2 w9 hown9 hgrow9 hat9 hlt9; have H9 := Lib.hid (HR.out.pushes hown9 hgrow9); clear hown9 hgrow9 hat9 hlt9)
          go_wp2_with fail
          go_roundw
          case rel => exact ⟨k + 1, by omega, by go_num, by rw [HN.out]; exact H9.out⟩
          case measure => simp [intOf]; omega
        · obtain rfl : k = xs.length := by omega
          rw [List.take_length] at HR ⊢
          go_wp2_with fail
          go_ret
          exact ⟨_, rfl, HR.out⟩
end Go.Proofs.YtmkcooamgojbpaaGreatDoor.Sheet
