/- Parts of the proof: Veil. -/
import Derived.StillTailTactics
import Derived.Test.YtmkcooamgojbpaaDoorPart2

/- A region of reads, behind a veil: no tactic runs the code by looking at the goal. -/
namespace Go.Proofs.YtmkcooamgojbpaaDoor.Veil
section
variable {P : Program} {ops : Array Oper} {w : World} {Q : Act → Prop} {a : Act} {o : Oper} {rest l : List Oper}
structure St (P : Program) (ops : Array Oper) (w : World) (Q : Act → Prop) (l : List Oper) (a : Act) : Prop where
  out : wpStill P ops w Q l a
theorem step (h : ∀ K : Act → Prop, (∀ a, St P ops w Q rest a → K a) → if Region.wanted o (yielded ops a.tmps) then o.still P a w K else K (a.put o.dst undef)) : St P ops w Q (o :: rest) a :=
  ⟨wpStill_step fun K hK => h K fun a h => hK a h.out⟩
theorem nil (h : Q a) : St P ops w Q [] a := ⟨wpStill_nil h⟩
theorem start {id : Nat} {Q : Exit → Act → World → Prop} (n : Nat) (hm : P.follows .mixedOrders = true) (hB : Region.lexTailB .any l.toArray n = true)
    (h : St P l.toArray { w with drawn := w.drawn + 1 } (fun a' => wpList P l.toArray Q (l.drop n) a' { w with drawn := w.drawn + 1 }) (l.take n) a) : (Code.region id l.toArray true).wp P Q a w :=
  wp_region_still_tail n hm hB h.out
/-- A read that an arm of the library makes. -/
theorem arm (h : wpStill P ops w (fun a => St P ops w Q rest a) [o] a) : St P ops w Q (o :: rest) a := step fun K hK => by
  have h2 := h
  simp only [wpStill] at h2
  split
  · rename_i hw
    rw [if_pos hw] at h2
    exact Oper.still_mono hK h2
  · rename_i hw
    rw [if_neg hw] at h2
    exact hK _ h2
end
end Go.Proofs.YtmkcooamgojbpaaDoor.Veil
