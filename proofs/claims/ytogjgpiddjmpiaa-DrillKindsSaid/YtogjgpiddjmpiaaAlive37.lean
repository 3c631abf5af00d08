/- damperlaw37.alive returns true, and leaves what was there as it was. -/
import Derived.Test.YtogjgpiddjmpiaaDice
import Derived.Test.YtogjgpiddjmpiaaStart
namespace Go.Proofs.Ytogjgpiddjmpiaa.Alive37
open Go.RowKit Go.Proofs.Ytogjgpiddjmpiaa.Plain Go.Proofs.Ytogjgpiddjmpiaa.Start Go.Proofs.Ytogjgpiddjmpiaa.Dice

set_option maxHeartbeats 1000000 in
theorem alive (w : World) : Calls Try.prog 14 #[] w fun e w' => e = .returned (.bool true) ∧ Below w.heap.size w w' := by
  go_enter Try.func14, Try.ntmps14
  go_wp2_with fail
  refine (plain1 w).mono ?_
  rintro e w1 ⟨g, cap, h, rfl, hg, hh, hg1, hh1, hb1, hsy, htab⟩
  go_wp2_with fail
  refine (start_any _ h 0 3 [(5, 1), (10, 2), (500, 0)] 10000 700 1300 2000 15 30 w1 (by decide) hh1 ⟨_, _, _, rfl⟩ ?_ 1 (by decide) rfl).mono ?_
  · intro i hi
    have : i = 0 ∨ i = 1 ∨ i = 2 := by simp at hi; omega
    rcases this with rfl | rfl | rfl <;> exact ⟨htab _ _ rfl, htab _ _ rfl⟩
  rintro e w2 ⟨rfl, hb2⟩
  have hb := hb1.trans (hb2.mono hb1.size)
  clear hsy htab hb1 hb2 hg hh hg1 hh1
  go_wp2_with fail
  refine (new_any 1 w2).mono ?_
  rintro e w3 ⟨rfl, rfl⟩
  go_wp2_with fail
  refine (next_some _ 1 10 _ (by decide) (cell_new _ _ _ _ _ _ rfl rfl) (by simp)).mono ?_
  rintro e w3 ⟨rfl, rfl⟩
  have ht : toss 1 10 = 4 := by decide +kernel
  rw [ht]
  go_wp2
  go_ret
  exact ⟨rfl, hb.alloc hb.size _⟩
end Go.Proofs.Ytogjgpiddjmpiaa.Alive37
