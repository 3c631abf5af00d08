/- Parts of the proof: LvlS. -/
import Derived.Test.YtogjgpiddjmpiaaPart25
import Derived.Test.YtogjgpiddjmpiaaPart1
import Derived.Test.YtogjgpiddjmpiaaPart2

/- slices.SortFunc, of levels. -/
namespace Go.Proofs.Ytogjgpiddjmpiaa.Depth
set_option linter.unusedVariables false
open Go.RowKit Go.Shelf Go.Proofs.Ytogjgpiddjmpiaa.Kit Go.Proofs.Ytogjgpiddjmpiaa.Blk Go.Proofs.Ytogjgpiddjmpiaa.Lay Go.Lib Go.Sort

def cfL (side : Int) (x y : Lvl) : Int := if better side x.price y.price = true then -1 else if x.price = y.price then 0 else 1
theorem lt_cfL (side : Int) (x y : Lvl) : ltOf (cfL side) x y = better side x.price y.price := by
  unfold ltOf cfL
  cases h : better side x.price y.price with
  | true => rfl
  | false =>
    rw [if_neg (by simp)]
    split <;> rfl
theorem swo_cfL (side : Int) : SWO (ltOf (cfL side)) where
  irrefl x := by
    rw [lt_cfL]
    cases h : better side x.price x.price with
    | false => rfl
    | true => have := better_asymm h; rw [h] at this; exact this
  trans x y z h1 h2 := by rw [lt_cfL] at *; exact better_trans h1 h2
  ntrans x y z h1 h2 := by
    rw [lt_cfL] at *
    unfold better at *
    split
    · rename_i h; rw [if_pos h] at h1 h2; simp only [decide_eq_false_iff_not] at *; omega
    · rename_i h; rw [if_neg h] at h1 h2
      split
      · rename_i h'; rw [if_pos h'] at h1 h2; simp only [decide_eq_false_iff_not] at *; omega
      · rfl
theorem better_any (side x y : Int) (w : World) : Calls Try.prog 123 #[.int .i64 side, .int .i64 x, .int .i64 y] w fun e w' => e = .returned (.bool (better side x y)) ∧ w = w' := by
  by_cases h0 : side = 0
  · have HE := Lib.hid (show better side x y = decide (y < x) by simp [better, h0])
    subst h0
    go_enter Try.func123, Try.ntmps123
    go_wp2_with fail
    go_ret
    exact ⟨ret_bool HE.out.symm, rfl⟩
  · have g0 : (side == 0) = false := by simpa using h0
    by_cases h1 : side = 1
    · have HE := Lib.hid (show better side x y = decide (x < y) by simp [better, h1])
      subst h1
      go_enter Try.func123, Try.ntmps123
      go_wp2_with fail
      go_ret
      exact ⟨ret_bool HE.out.symm, rfl⟩
    · have g1 : (side == 1) = false := by simpa using h1
      have HE := Lib.hid (show better side x y = false by simp [better, h0, h1])
      clear h0 h1
      go_enter Try.func123, Try.ntmps123
      go_wp2_with fail
      go_ret
      exact ⟨ret_bool HE.out.symm, rfl⟩
/-- The comparison: two blocks are laid. -/
theorem cmp_any (side : Int) (sb : Nat) (x y : Lvl) (W : World) (hs : W.cell? ⟨sb, 0, none⟩ = some (.int .i64 side)) (hlt : sb < W.heap.size) :
    Calls Try.prog 122 #[.agg x.cells, .agg y.cells, .pointer (some ⟨sb, 0, none⟩)] W fun e w' => e = .returned (.int .i64 (cfL side x y)) ∧ ∃ q os', w' = grow (W.drewN q) os' := by
  have HG := Lib.hid (show ∃ q os', (W.alloc (.cells x.cells 90)).alloc (.cells y.cells 90) = grow (W.drewN q) os' from ⟨0, _, by rw [alloc_eq_grow, alloc_eq_grow, grow_grow]; rfl⟩)
  have hx : sb ≠ W.heap.size := by omega
  obtain ⟨x0, x1, x2⟩ := x
  obtain ⟨y0, y1, y2⟩ := y
  cases hb : better side x0 y0 with
  | true =>
    have HE := Lib.hid (show cfL side ⟨x0, x1, x2⟩ ⟨y0, y1, y2⟩ = -1 by simp [cfL, hb])
    have HB := Lib.hid hb
    clear hb
    dsimp only [Lvl.cells] at *
    go_enter Try.func122, Try.ntmps122
    go_wp2_with fail
    refine (better_any side x0 y0 _).mono ?_
    rintro e w' ⟨rfl, rfl⟩
    rw [HB.out]
    go_wp2_with fail
    go_ret
    exact ⟨ret_int HE.out.symm, HG.out⟩
  | false =>
    have HB := Lib.hid hb
    by_cases he : x0 = y0
    · have HE := Lib.hid (show cfL side ⟨x0, x1, x2⟩ ⟨y0, y1, y2⟩ = 0 by subst he; simp [cfL, hb])
      have g0 : (x0 == y0) = true := by simpa using he
      clear hb he
      dsimp only [Lvl.cells] at *
      go_enter Try.func122, Try.ntmps122
      go_wp2_with fail
      refine (better_any side x0 y0 _).mono ?_
      rintro e w' ⟨rfl, rfl⟩
      rw [HB.out]
      go_wp2_with fail
      go_ret
      exact ⟨ret_int HE.out.symm, HG.out⟩
    · have HE := Lib.hid (show cfL side ⟨x0, x1, x2⟩ ⟨y0, y1, y2⟩ = 1 by simp [cfL, hb, he])
      have g0 : (x0 == y0) = false := by simpa using he
      clear hb he
      dsimp only [Lvl.cells] at *
      go_enter Try.func122, Try.ntmps122
      go_wp2_with fail
      refine (better_any side x0 y0 _).mono ?_
      rintro e w' ⟨rfl, rfl⟩
      rw [HB.out]
      go_wp2_with fail
      go_ret
      exact ⟨ret_int HE.out.symm, HG.out⟩

abbrev encL (x : Lvl) : List Value := x.cells.toList
theorem grow_chg {w : World} {g n m : Nat} {d : Array Lvl} {os : Array Obj} (hg : g < w.heap.size) : Chg w.heap.size g w (sortWorldK encL 3 w g n m d os) := by
  unfold sortWorldK putRowK putRow grow Sort.ahead
  refine ⟨rfl, rfl, rfl, by simp [mapBlock], fun k hk hd => ?_⟩
  simp only [mapBlock]
  rw [Array.getElem?_append_left (by simp; omega)]
  rw [Array.getElem?_modify]
  rw [if_neg (fun e => hd e.symm)]
theorem sortFunc_any (side : Int) (sb g cap : Nat) (d : Array Lvl) (w : World) (hs : w.cell? ⟨sb, 0, none⟩ = some (.int .i64 side)) (hsl : sb < w.heap.size) (hne : sb ≠ g) (hH : HoldsK encL 3 w g 0 d) (hg : g < w.heap.size) (hsz : d.size < 4611686018427387904) :
    Calls Try.prog 159 #[.slice (some ⟨g, 0, none⟩) d.size cap, .func (.func 122) #[] #[.pointer (some ⟨sb, 0, none⟩)]] w fun e w' =>
      e = .returned (.tuple #[]) ∧ ∃ d', PermIn 0 d.size d d' ∧ SortedIn (ltOf (cfL side)) 0 d.size d' ∧ HoldsK encL 3 w' g 0 d' ∧ Chg w.heap.size g w w' := by
  have eg : ∀ args w, (callFunc 122 args).run Try.prog w = .ok (.enter 122 args) w := enters_of Try.func122 (by kernel_rfl) rfl
  have hcon := AnyQ.slices_SortFunc sortL 3 Try.isAgg90 Try.sizeOf90 encL (fun _ => rfl) (fun x v hv => by simp [Lvl.cells] at hv; rcases hv with rfl | rfl | rfl <;> rfl) (cfL side) (swo_cfL side) 122 #[.pointer (some ⟨sb, 0, none⟩)] g 0 cap d w eg
    (fun m os dk hdk x y => by
      have hc : Chg w.heap.size g w (sortWorldK encL 3 w g 0 m dk os) := grow_chg hg
      exact cmp_any side sb x y _ (by rw [hc.cell (p := ⟨sb, 0, none⟩) hsl hne]; exact hs) (Nat.lt_of_lt_of_le hsl hc.size)) hH hg hsz
  change Calls _ 159 _ _ _ at hcon
  refine hcon.mono ?_
  rintro e w' ⟨rfl, d', n, os, hp, hso, rfl⟩
  exact ⟨rfl, d', hp, hso, holdsK_sortWorldK_c _ _ _ _ _ d d' n os hH hg hp.1, grow_chg hg⟩
end Go.Proofs.Ytogjgpiddjmpiaa.Depth
