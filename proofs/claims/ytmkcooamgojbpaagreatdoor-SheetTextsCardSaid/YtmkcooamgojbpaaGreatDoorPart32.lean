/- Parts of the proof: Dag. -/
import Derived.Deep.RegionHeld3
import Derived.Test.YtmkcooamgojbpaaGreatDoorPart3

/- A drawn region by an invariant: each state once, whatever way led there. -/
namespace Go.Proofs.YtmkcooamgojbpaaGreatDoor.Dag
theorem count_down {listed : Array Bool} {i : Nat} (h : listed.getD i true = false) : (listed.setIfInBounds i true).toList.count false + 1 = listed.toList.count false := by
  have hi : i < listed.size := by
    by_cases hi : i < listed.size
    · exact hi
    · simp [Array.getD, hi] at h
  have hv : listed[i] = false := by simpa [Array.getD, hi] using h
  rw [Array.toList_setIfInBounds, List.count_set (by simpa using hi)]
  have hp : 0 < listed.toList.count false := List.count_pos_iff.2 (by rw [← hv]; exact Array.getElem_mem_toList hi)
  have e : listed.toList[i]'(by simpa using hi) = false := by simpa using hv
  rw [e]
  generalize listed.toList.count false = c at hp
  show c - 1 + 0 + 1 = c
  omega
/-- A region's walk by an invariant I of what has come up, the temporaries and the world. -/
theorem wpAnyH_inv {P : Program} {md : Region.Mode} {ops : Array Oper} {Q : Exit → Act → World → Prop} {S : World → Prop} (I : Array Bool → Act → World → Prop)
    (h0 : ∀ listed a w, I listed a w → Region.ready md ops listed = [] → Q .normal a w)
    (h1 : ∀ listed a w, I listed a w → ∀ i ∈ Region.ready md ops listed, wpOp P ops Q i (fun a' w' => S w' ∧ I (listed.setIfInBounds i true) a' w') a w) :
    ∀ (fuel : Nat) (listed : Array Bool) (a : Act) (w : World), listed.toList.count false ≤ fuel → I listed a w → wpAnyH P md ops Q S fuel listed a w := by
  intro fuel
  induction fuel with
  | zero =>
    intro listed a w hc hI
    have hr : Region.ready md ops listed = [] := List.eq_nil_iff_forall_not_mem.2 fun i hi => by
      have := count_down (mem_ready.1 hi).1
      omega
    exact ⟨hr, h0 listed a w hI hr⟩
  | succ fuel ih =>
    intro listed a w hc hI
    refine ⟨fun hr => h0 listed a w hI hr, fun i hi => wpOp_mono (fun a' w' h => ⟨h.1, ih _ a' w' ?_ h.2⟩) (h1 listed a w hI i hi)⟩
    have := count_down (mem_ready.1 hi).1
    omega
end Go.Proofs.YtmkcooamgojbpaaGreatDoor.Dag
