/- Volumes by price, and the busiest price: plain. -/
import Derived.Test.YtogjgpiddjmpiaaTapeSpec
namespace Go.Proofs.Ytogjgpiddjmpiaa.Tape
open Go.RowKit Go.Proofs.Ytogjgpiddjmpiaa.Msgs

def volP (L : List Msg) (p : Int) : Int := (L.map fun m => if m.price = p then m.qty else 0).sum
theorem vol_nil (p : Int) : volP [] p = 0 := rfl
theorem vol_snoc (L : List Msg) (m : Msg) (p : Int) : volP (L ++ [m]) p = volP L p + if m.price = p then m.qty else 0 := by
  simp [volP, List.sum_append]
theorem vol_in (L : List Msg) (h : ∀ m ∈ L, Good m) (p : Int) : 0 ≤ volP L p ∧ volP L p ≤ (L.length : Int) * 4294967296 := by
  induction L with
  | nil => simp [volP]
  | cons m L ih =>
    have ⟨h1, h2⟩ := ih (fun x hx => h x (List.mem_cons_of_mem _ hx))
    have hg := (h m List.mem_cons_self).q1
    have hg2 := (h m List.mem_cons_self).q2
    have e : volP (m :: L) p = (if m.price = p then m.qty else 0) + volP L p := rfl
    rw [e]
    have hl : ((m :: L).length : Int) = (L.length : Int) + 1 := by simp
    rw [hl]
    split <;> omega
theorem vol_pos (L : List Msg) (h : ∀ m ∈ L, Good m) (m : Msg) (hm : m ∈ L) : 1 ≤ volP L m.price := by
  induction L with
  | nil => exact absurd hm (by simp)
  | cons x L ih =>
    have e : volP (x :: L) m.price = (if x.price = m.price then x.qty else 0) + volP L m.price := rfl
    have hg := (h x List.mem_cons_self).q1
    have hn := (vol_in L (fun y hy => h y (List.mem_cons_of_mem _ hy)) m.price).1
    rw [e]
    rcases List.mem_cons.1 hm with rfl | hm
    · rw [if_pos rfl]; omega
    · have := ih (fun y hy => h y (List.mem_cons_of_mem _ hy)) hm
      split <;> omega

/-- p is the busiest of the prices l, by the volumes v. -/
def Busy (v : Int → Int) (l : List Int) (p : Int) : Prop := p ∈ l ∧ ∀ q ∈ l, v q < v p ∨ (v q = v p ∧ p ≤ q)
theorem busy_unique {v : Int → Int} {l k : List Int} {p q : Int} (h : Busy v l p) (g : Busy v k q) (hlk : ∀ x, x ∈ l ↔ x ∈ k) : p = q := by
  have h1 := h.2 q ((hlk q).2 g.1)
  have h2 := g.2 p ((hlk p).1 h.1)
  omega
theorem busy_one (v : Int → Int) (p : Int) : Busy v [p] p := ⟨by simp, fun q hq => by obtain rfl := List.mem_singleton.1 hq; exact .inr ⟨rfl, Int.le_refl _⟩⟩
theorem busy_new {v : Int → Int} {l : List Int} {b p : Int} (h : Busy v l b) (hp : v b < v p ∨ (v p = v b ∧ p < b)) : Busy v (l ++ [p]) p := by
  refine ⟨by simp, fun q hq => ?_⟩
  rcases List.mem_append.1 hq with hq | hq
  · have := h.2 q hq; omega
  · obtain rfl := List.mem_singleton.1 hq; omega
theorem busy_old {v : Int → Int} {l : List Int} {b p : Int} (h : Busy v l b) (hp : v p < v b ∨ (v p = v b ∧ b ≤ p)) : Busy v (l ++ [p]) b := by
  refine ⟨List.mem_append_left _ h.1, fun q hq => ?_⟩
  rcases List.mem_append.1 hq with hq | hq
  · exact h.2 q hq
  · obtain rfl := List.mem_singleton.1 hq; omega
/-- What both Busiest answer: of no price 0, else the busiest. -/
def BusyOr (v : Int → Int) (l : List Int) (p : Int) : Prop := (l = [] ∧ p = 0) ∨ Busy v l p
theorem busyOr_unique {v : Int → Int} {l k : List Int} {p q : Int} (h : BusyOr v l p) (g : BusyOr v k q) (hlk : ∀ x, x ∈ l ↔ x ∈ k) : p = q := by
  rcases h with ⟨rfl, rfl⟩ | h
  · rcases g with ⟨rfl, rfl⟩ | g
    · rfl
    · exact absurd ((hlk q).2 g.1) (by simp)
  · rcases g with ⟨rfl, rfl⟩ | g
    · exact absurd ((hlk p).1 h.1) (by simp)
    · exact busy_unique h g hlk
end Go.Proofs.Ytogjgpiddjmpiaa.Tape
