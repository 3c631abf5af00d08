/- Parts of the proof: Octets, BoxRow. -/
import Derived.Test.YtmkcooamgojbpaaDoorPart12
import Derived.Test.YtmkcooamgojbpaaDoorPart13
import Derived.Deep.AppendLies
import Derived.Deep.DrawnRows

/- Bytes written one behind the other: what a writer keeps. -/
namespace Go.Proofs.YtmkcooamgojbpaaDoor.Octets
set_option linter.unusedVariables false
open Go.RowKit Go.Proofs.YtmkcooamgojbpaaDoor.Kit Go.Proofs.YtmkcooamgojbpaaDoor.Blk
attribute [local go_sem ↓] Go.wp_at_zero Go.wp_at_succ

/-- A number in groups of seven bits, the least first. -/
def numG : Nat → Nat → List Nat
  | 0, n => [n]
  | f + 1, n => if n < 128 then [n] else (n % 128 + 128) :: numG f (n / 128)
def numB (n : Nat) : List Nat := numG 10 n
def vals (l : List Nat) : List Value := l.map fun (b : Nat) => Value.int .u8 (b : Int)
theorem vals_app (l k : List Nat) : vals (l ++ k) = vals l ++ vals k := by simp [vals]
theorem vals_len (l : List Nat) : (vals l).length = l.length := by simp [vals]
theorem infoU8 : (Tryd.prog.info? 5).map (fun i => (i.zero, i.size, i.bytes)) = some (some (.int .u8 0), 1, 1) := by kernel_rfl
/-- A writer at block P has written l. -/
def WS (N P : Nat) (l : List Nat) (W : World) : Prop := ∃ v, Blk W P #[v] 273 ∧ W.ownsRow N 5 1 v l.length (vals l)
/-- Block B is neither the writer's nor the one that its bytes lie in. -/
def NR (P B : Nat) (W : World) : Prop := B ≠ P ∧ ∀ v, Blk W P #[v] 273 → v.ownBlock ≠ some B
/-- Nothing below N has changed, nor any block but bytes and writers; nor any but the writer's own. -/
structure Keep (N P : Nat) (w w' : World) : Prop where
  bel : Below N w w'
  blk : ∀ (B : Nat) (cs : Array Value) (T : TypeId), Blk w B cs T → T ≠ 273 → T ≠ 5 → Blk w' B cs T
  apart : ∀ B, B < w.heap.size → NR P B w → NR P B w' ∧ w'.heap[B]? = w.heap[B]?
theorem Keep.refl (N P : Nat) (w : World) : Keep N P w w := ⟨Below.refl _ _, fun _ _ _ h _ _ => h, fun _ _ h => ⟨h, rfl⟩⟩
theorem Keep.trans {N P : Nat} {a b c : World} (h : Keep N P a b) (k : Keep N P b c) : Keep N P a c := ⟨h.bel.trans k.bel, fun B cs T hB h1 h2 => k.blk B cs T (h.blk B cs T hB h1 h2) h1 h2, fun B hB hn =>
  have h1 := h.apart B hB hn
  have h2 := k.apart B (Nat.lt_of_lt_of_le hB h.bel.size) h1.1
  ⟨h2.1, h2.2.trans h1.2⟩⟩
theorem Keep.below {N P : Nat} {w w' : World} (hN : N ≤ w.heap.size) (hP : P < w.heap.size) (h : Below w.heap.size w w') : Keep N P w w' := ⟨h.mono hN, fun B cs T hB _ _ => hB.below h hB.lt, fun B hB hn => ⟨⟨hn.1, fun v hv => hn.2 v (by unfold Blk at hv ⊢; rw [← h.block P hP]; exact hv)⟩, h.block B hB⟩⟩
theorem row_from' {W : World} {base e size k : Nat} {v : Value} {xs : List Value} (hr : W.ownsRow base e size v k xs) {j : Nat} (h : v.ownBlock = some j) : base ≤ j ∧ ∃ cur, W.heap[j]? = some (.cells cur e (0, 0)) := by
  rcases hr.2 with ⟨rfl, _⟩ | ⟨g, cap, cur, rfl, hg, hgb, _⟩
  · simp [Value.ownBlock] at h
  · obtain rfl : g = j := by simpa [Value.ownBlock] using h
    exact ⟨hg, cur, hgb⟩
theorem blk_row' {W W' : World} {B : Nat} {cs : Array Value} {t e base size k : Nat} {v : Value} {xs : List Value} (h : Blk W B cs t) (hte : t ≠ e) (hr : W.ownsRow base e size v k xs) (hg : W.grownBy W' v.ownBlock) : Blk W' B cs t := by
  refine (hg.block B h.lt (fun e' => ?_)).trans h
  obtain ⟨_, cur, hc⟩ := row_from' hr e'.symm
  rw [show W.heap[B]? = _ from h] at hc
  cases hc
  exact hte rfl
theorem grown_cell (W : World) (b j : Nat) (v : Value) : W.grownBy (W.setCell ⟨b, j, none⟩ v) (some b) :=
  ⟨rfl, rfl, rfl, by simp [World.setCell], fun k _ hk => Below.heap_setCell _ _ _ k (fun e => hk (by rw [e]))⟩
theorem blk_keep {W W' w1 : World} {B : Nat} {cs : Array Value} {t e base size k : Nat} {v : Value} {xs : List Value} (hb : Below W.heap.size W W') (h : Blk W B cs t) (hte : t ≠ e) (hr : W.ownsRow base e size v k xs) (hg : W'.grownBy w1 v.ownBlock) : Blk w1 B cs t := by
  refine (hg.block B (Nat.lt_of_lt_of_le h.lt hb.size) (fun e' => ?_)).trans (h.below hb h.lt)
  obtain ⟨_, cur, hc⟩ := row_from' hr e'.symm
  rw [show W.heap[B]? = _ from h] at hc
  cases hc
  exact hte rfl
/-- Bytes appended (W': the world behind what was laid for them). -/
theorem ws_push {N P : Nat} {l m : List Nat} {W W' w1 : World} {v v' : Value} (hb : Below W.heap.size W W') (hv : Blk W P #[v] 273) (hrow : W.ownsRow N 5 1 v l.length (vals l)) (hNP : N ≤ P) (hle : N ≤ W.heap.size)
    (hown : w1.ownsRow N 5 1 v' (l.length + m.length) (vals l ++ vals m)) (hgrow : W'.grownBy w1 v.ownBlock) {g H : Nat} (hv' : v'.ownBlock = some g) (hat : v.ownBlock = some g ∨ g = H) (hH : W.heap.size ≤ H) :
    WS N P (l ++ m) (w1.setCell ⟨P, 0, none⟩ v') ∧ Keep N P W (w1.setCell ⟨P, 0, none⟩ v') := by
  have h1 : Blk w1 P #[v] 273 := blk_keep hb hv (by decide) hrow hgrow
  refine ⟨⟨v', ?_, ?_⟩, ?_, ?_, ?_⟩
  · have := h1.set 0 v'; exact this
  · rw [vals_app, List.length_append]
    refine hown.kept (grown_cell w1 P 0 v') ?_
    cases hv' : v'.ownBlock with
    | none => exact .inl rfl
    | some j =>
      right
      intro e
      obtain ⟨_, cur, hc⟩ := row_from' hown hv'
      cases e
      rw [show w1.heap[P]? = _ from h1] at hc
      cases hc
  · exact (((hb.mono hle).grown hgrow (Nat.le_trans hle hb.size) (fun k e => (row_from' hrow e).1))).setCell (p := ⟨P, 0, none⟩) hNP v'
  · intro B cs T hB h2 h3
    refine (blk_keep hb hB h3 hrow hgrow).apart _ _ ?_
    show P ≠ B
    intro e
    subst e
    have hB' : W.heap[P]? = some (.cells cs T (0, 0)) := hB
    rw [show W.heap[P]? = _ from hv] at hB'
    injection hB' with hB'
    injection hB' with _ hB' _
    exact h2 hB'.symm
  · intro B hB hn
    have hvB : v.ownBlock ≠ some B := hn.2 v hv
    have e1 : w1.heap[B]? = W.heap[B]? := (hgrow.block B (Nat.lt_of_lt_of_le hB hb.size) (fun e => hvB e.symm)).trans (hb.block B hB)
    have e2 : (w1.setCell ⟨P, 0, none⟩ v').heap[B]? = w1.heap[B]? := Below.heap_setCell _ _ _ B (fun e => hn.1 (by first | exact e | exact e.symm))
    refine ⟨⟨hn.1, fun u hu => ?_⟩, e2.trans e1⟩
    have h3 : Blk (w1.setCell ⟨P, 0, none⟩ v') P #[v'] 273 := h1.set 0 v'
    have hu' : (w1.setCell ⟨P, 0, none⟩ v').heap[P]? = some (.cells #[u] 273 (0, 0)) := hu
    rw [show (w1.setCell ⟨P, 0, none⟩ v').heap[P]? = _ from h3] at hu'
    injection hu' with hu'
    injection hu' with hu'
    have hu2 : v' = u := by injection hu' with hu'; injection hu'
    rw [← hu2, hv']
    intro e
    injection e with e
    rcases hat with h | h
    · exact hvB (by rw [h, e])
    · omega
theorem nr_new {N P : Nat} {l : List Nat} {W : World} (h : WS N P l W) (o : Obj) : NR P W.heap.size (W.alloc o) := by
  obtain ⟨v, hv, hrow⟩ := h
  have hP := hv.lt
  refine ⟨by omega, fun u hu => ?_⟩
  have h3 : Blk (W.alloc o) P #[v] 273 := hv.old o
  have hu' : (W.alloc o).heap[P]? = some (.cells #[u] 273 (0, 0)) := hu
  rw [show (W.alloc o).heap[P]? = _ from h3] at hu'
  injection hu' with hu'
  injection hu' with hu'
  have hu2 : v = u := by injection hu' with hu'; injection hu'
  rw [← hu2]
  intro e
  have := (hrow.lt _ e).2
  omega
end Go.Proofs.YtmkcooamgojbpaaDoor.Octets

/- A block of one cell that holds a row of its own; what appending to it leaves alone. -/
namespace Go.Proofs.YtmkcooamgojbpaaDoor.Blk
open Go.RowKit Go.Proofs.YtmkcooamgojbpaaDoor.Kit Go.Proofs.YtmkcooamgojbpaaDoor.Octets
set_option linter.unusedVariables false

def BR (T e N P : Nat) (xs : List Value) (W : World) : Prop := ∃ v, Blk W P #[v] T ∧ W.ownsRow N e 1 v xs.length xs
structure KeepB (T e N : Nat) (w w' : World) : Prop where
  bel : Below N w w'
  blk : ∀ (B : Nat) (cs : Array Value) (U : TypeId), Blk w B cs U → U ≠ T → U ≠ e → Blk w' B cs U
section
variable {T e N P : Nat} {xs ys : List Value} {w W W' w1 : World} {v v' : Value}
theorem KeepB.refl (T e N : Nat) (w : World) : KeepB T e N w w := ⟨Below.refl _ _, fun _ _ _ h _ _ => h⟩
theorem KeepB.trans {a b c : World} (h : KeepB T e N a b) (k : KeepB T e N b c) : KeepB T e N a c := ⟨h.bel.trans k.bel, fun B cs U hB h1 h2 => k.blk B cs U (h.blk B cs U hB h1 h2) h1 h2⟩
theorem KeepB.below (hN : N ≤ w.heap.size) (h : Below w.heap.size w W) : KeepB T e N w W := ⟨h.mono hN, fun B cs U hB _ _ => hB.below h hB.lt⟩
theorem KeepB.alloc (hN : N ≤ w.heap.size) (o : Obj) : KeepB T e N w (w.alloc o) := KeepB.below hN ((Below.refl _ _).alloc (Nat.le_refl _) _)
theorem KeepB.drew (h : KeepB T e N w W) : KeepB T e N w W.drew := ⟨h.bel.drew, fun B cs U hB h1 h2 => (h.blk B cs U hB h1 h2).drew⟩
theorem KeepB.drewN (h : KeepB T e N w W) (n : Nat) : KeepB T e N w (W.drewN n) := ⟨h.bel.drewN n, fun B cs U hB h1 h2 => (h.blk B cs U hB h1 h2).drewN n⟩
theorem BR.lt (h : BR T e N P xs W) : P < W.heap.size := by obtain ⟨v, hv, _⟩ := h; exact hv.lt
theorem BR.below (h : BR T e N P xs W) (hb : Below W.heap.size W W') : BR T e N P xs W' := by
  obtain ⟨v, hv, hr⟩ := h
  exact ⟨v, hv.below hb hv.lt, hr.kept (row := none) ⟨hb.os, hb.tape, hb.output, hb.size, fun k hk _ => hb.block k hk⟩ (by cases v.ownBlock; exact .inl rfl; exact .inr (by simp))⟩
theorem BR.alloc (h : BR T e N P xs W) (o : Obj) : BR T e N P xs (W.alloc o) := h.below ((Below.refl _ _).alloc (Nat.le_refl _) _)
theorem BR.drew (h : BR T e N P xs W) : BR T e N P xs W.drew := h.below (Below.refl _ _).drew
theorem BR.drewN (h : BR T e N P xs W) (n : Nat) : BR T e N P xs (W.drewN n) := h.below ((Below.refl _ _).drewN n)
theorem br_new (w : World) (n : Nat) (hn : w.heap.size = n) : BR T e N n [] (w.alloc (.cells #[.slice none 0 0] T)) := ⟨_, Blk.new _ _ _ _ hn, World.ownsRow_nil _ _ _ _⟩
theorem BR.slice (h : BR T e N P xs W) : ∃ a c, Blk W P #[.slice a xs.length c] T ∧ W.ownsRow N e 1 (.slice a xs.length c) xs.length xs := by
  obtain ⟨v, hv, hr⟩ := h
  rcases hr.2 with ⟨rfl, h0⟩ | ⟨g, cap, cur, rfl, h1⟩
  · have h0 : xs.length = 0 := h0
    rw [h0] at hr ⊢
    exact ⟨_, _, hv, hr⟩
  · exact ⟨_, _, hv, hr⟩
/-- Elements appended (W': the world behind what was laid for them). -/
theorem br_push (hte : T ≠ e) (hb : Below W.heap.size W W') (hv : Blk W P #[v] T) (hrow : W.ownsRow N e 1 v xs.length xs) (hNP : N ≤ P) (hle : N ≤ W.heap.size)
    (hown : w1.ownsRow N e 1 v' (xs.length + ys.length) (xs ++ ys)) (hgrow : W'.grownBy w1 v.ownBlock) :
    BR T e N P (xs ++ ys) (w1.setCell ⟨P, 0, none⟩ v') ∧ KeepB T e N W (w1.setCell ⟨P, 0, none⟩ v') := by
  have h1 : Blk w1 P #[v] T := blk_keep hb hv hte hrow hgrow
  refine ⟨⟨v', ?_, ?_⟩, ?_, ?_⟩
  · have := h1.set 0 v'; exact this
  · rw [List.length_append]
    refine hown.kept (grown_cell w1 P 0 v') ?_
    cases hv' : v'.ownBlock with
    | none => exact .inl rfl
    | some j =>
      right
      intro e'
      obtain ⟨_, cur, hc⟩ := row_from' hown hv'
      cases e'
      rw [show w1.heap[P]? = _ from h1] at hc
      injection hc with hc
      injection hc with _ hc _
      exact hte hc
  · exact (((hb.mono hle).grown hgrow (Nat.le_trans hle hb.size) (fun k e => (row_from' hrow e).1))).setCell (p := ⟨P, 0, none⟩) hNP v'
  · intro B cs U hB h2 h3
    refine (blk_keep hb hB h3 hrow hgrow).apart _ _ ?_
    show P ≠ B
    intro e'
    subst e'
    have hB' : W.heap[P]? = some (.cells cs U (0, 0)) := hB
    rw [show W.heap[P]? = _ from hv] at hB'
    injection hB' with hB'
    injection hB' with _ hB' _
    exact h2 hB'.symm
end
end Go.Proofs.YtmkcooamgojbpaaDoor.Blk
