/- Parts of the proof: Octets, BoxRow, OctetsN. -/
import Derived.Test.YtmkcooamgojbpaaGreatDoorPart8
import Derived.Test.YtmkcooamgojbpaaGreatDoorPart10
import Derived.Deep.AppendLies
import Derived.Deep.DrawnRows

/- Bytes written one behind the other: what a writer keeps. -/
namespace Go.Proofs.YtmkcooamgojbpaaGreatDoor.Octets
set_option linter.unusedVariables false
open Go.RowKit Go.Proofs.YtmkcooamgojbpaaGreatDoor.Kit Go.Proofs.YtmkcooamgojbpaaGreatDoor.Blk
attribute [local go_sem ↓] Go.wp_at_zero Go.wp_at_succ

/-- A number in groups of seven bits, the least first. -/
def numG : Nat → Nat → List Nat
  | 0, n => [n]
  | f + 1, n => if n < 128 then [n] else (n % 128 + 128) :: numG f (n / 128)
def numB (n : Nat) : List Nat := numG 10 n
def vals (l : List Nat) : List Value := l.map fun (b : Nat) => Value.int .u8 (b : Int)
theorem vals_app (l k : List Nat) : vals (l ++ k) = vals l ++ vals k := by simp [vals]
theorem vals_len (l : List Nat) : (vals l).length = l.length := by simp [vals]
theorem infoU8 : (Tryz.prog.info? 5).map (fun i => (i.zero, i.size, i.bytes)) = some (some (.int .u8 0), 1, 1) := by kernel_rfl
theorem row_from' {W : World} {base e size k : Nat} {v : Value} {xs : List Value} (hr : W.ownsRow base e size v k xs) {j : Nat} (h : v.ownBlock = some j) : base ≤ j ∧ ∃ cur, W.heap[j]? = some (.cells cur e (0, 0)) := by
  rcases hr.2 with ⟨rfl, _⟩ | ⟨g, cap, cur, rfl, hg, hgb, _⟩
  · simp [Value.ownBlock] at h
  · obtain rfl : g = j := by simpa [Value.ownBlock] using h
    exact ⟨hg, cur, hgb⟩
theorem blk_row' {W W' : World} {B : Nat} {cs : Array Value} {t e base size k : Nat} {v : Value} {xs : List Value} (h : Blk W B cs t) (hte : t ≠ e) (hr : W.ownsRow base e size v k xs) (hg : W.grownBy W' v.ownBlock) : Blk W' B cs t := by
  refine (hg.block B h.lt (fun e' => ?_)).trans h
  obtain ⟨_, cur, hc⟩ := row_from' hr e'.symm
  rw [show W.heap[B]? = _ from h] at hc
  cases hc
  exact hte rfl
theorem grown_cell (W : World) (b j : Nat) (v : Value) : W.grownBy (W.setCell ⟨b, j, none⟩ v) (some b) :=
  ⟨rfl, rfl, rfl, by simp [World.setCell], fun k _ hk => Below.heap_setCell _ _ _ k (fun e => hk (by rw [e]))⟩
theorem blk_keep {W W' w1 : World} {B : Nat} {cs : Array Value} {t e base size k : Nat} {v : Value} {xs : List Value} (hb : Below W.heap.size W W') (h : Blk W B cs t) (hte : t ≠ e) (hr : W.ownsRow base e size v k xs) (hg : W'.grownBy w1 v.ownBlock) : Blk w1 B cs t := by
  refine (hg.block B (Nat.lt_of_lt_of_le h.lt hb.size) (fun e' => ?_)).trans (h.below hb h.lt)
  obtain ⟨_, cur, hc⟩ := row_from' hr e'.symm
  rw [show W.heap[B]? = _ from h] at hc
  cases hc
  exact hte rfl
end Go.Proofs.YtmkcooamgojbpaaGreatDoor.Octets

/- A block of one cell that holds a row of its own; what appending to it leaves alone. -/
namespace Go.Proofs.YtmkcooamgojbpaaGreatDoor.Blk
open Go.RowKit Go.Proofs.YtmkcooamgojbpaaGreatDoor.Kit Go.Proofs.YtmkcooamgojbpaaGreatDoor.Octets
set_option linter.unusedVariables false

def BR (T e N P : Nat) (xs : List Value) (W : World) : Prop := ∃ v, Blk W P #[v] T ∧ W.ownsRow N e 1 v xs.length xs
structure KeepB (T e N : Nat) (w w' : World) : Prop where
  bel : Below N w w'
  blk : ∀ (B : Nat) (cs : Array Value) (U : TypeId), Blk w B cs U → U ≠ T → U ≠ e → Blk w' B cs U
section
variable {T e N P : Nat} {xs ys : List Value} {w W W' w1 : World} {v v' : Value}
theorem KeepB.refl (T e N : Nat) (w : World) : KeepB T e N w w := ⟨Below.refl _ _, fun _ _ _ h _ _ => h⟩
theorem KeepB.trans {a b c : World} (h : KeepB T e N a b) (k : KeepB T e N b c) : KeepB T e N a c := ⟨h.bel.trans k.bel, fun B cs U hB h1 h2 => k.blk B cs U (h.blk B cs U hB h1 h2) h1 h2⟩
theorem KeepB.below (hN : N ≤ w.heap.size) (h : Below w.heap.size w W) : KeepB T e N w W := ⟨h.mono hN, fun B cs U hB _ _ => hB.below h hB.lt⟩
theorem KeepB.alloc (hN : N ≤ w.heap.size) (o : Obj) : KeepB T e N w (w.alloc o) := KeepB.below hN ((Below.refl _ _).alloc (Nat.le_refl _) _)
theorem KeepB.drew (h : KeepB T e N w W) : KeepB T e N w W.drew := ⟨h.bel.drew, fun B cs U hB h1 h2 => (h.blk B cs U hB h1 h2).drew⟩
theorem KeepB.drewN (h : KeepB T e N w W) (n : Nat) : KeepB T e N w (W.drewN n) := ⟨h.bel.drewN n, fun B cs U hB h1 h2 => (h.blk B cs U hB h1 h2).drewN n⟩
theorem BR.lt (h : BR T e N P xs W) : P < W.heap.size := by obtain ⟨v, hv, _⟩ := h; exact hv.lt
theorem BR.below (h : BR T e N P xs W) (hb : Below W.heap.size W W') : BR T e N P xs W' := by
  obtain ⟨v, hv, hr⟩ := h
  exact ⟨v, hv.below hb hv.lt, hr.kept (row := none) ⟨hb.os, hb.tape, hb.output, hb.size, fun k hk _ => hb.block k hk⟩ (by cases v.ownBlock; exact .inl rfl; exact .inr (by simp))⟩
theorem BR.alloc (h : BR T e N P xs W) (o : Obj) : BR T e N P xs (W.alloc o) := h.below ((Below.refl _ _).alloc (Nat.le_refl _) _)
theorem BR.drew (h : BR T e N P xs W) : BR T e N P xs W.drew := h.below (Below.refl _ _).drew
theorem BR.drewN (h : BR T e N P xs W) (n : Nat) : BR T e N P xs (W.drewN n) := h.below ((Below.refl _ _).drewN n)
theorem br_new (w : World) (n : Nat) (hn : w.heap.size = n) : BR T e N n [] (w.alloc (.cells #[.slice none 0 0] T)) := ⟨_, Blk.new _ _ _ _ hn, World.ownsRow_nil _ _ _ _⟩
theorem BR.slice (h : BR T e N P xs W) : ∃ a c, Blk W P #[.slice a xs.length c] T ∧ W.ownsRow N e 1 (.slice a xs.length c) xs.length xs := by
  obtain ⟨v, hv, hr⟩ := h
  rcases hr.2 with ⟨rfl, h0⟩ | ⟨g, cap, cur, rfl, h1⟩
  · have h0 : xs.length = 0 := h0
    rw [h0] at hr ⊢
    exact ⟨_, _, hv, hr⟩
  · exact ⟨_, _, hv, hr⟩
/-- Elements appended (W': the world behind what was laid for them). -/
theorem br_push (hte : T ≠ e) (hb : Below W.heap.size W W') (hv : Blk W P #[v] T) (hrow : W.ownsRow N e 1 v xs.length xs) (hNP : N ≤ P) (hle : N ≤ W.heap.size)
    (hown : w1.ownsRow N e 1 v' (xs.length + ys.length) (xs ++ ys)) (hgrow : W'.grownBy w1 v.ownBlock) :
    BR T e N P (xs ++ ys) (w1.setCell ⟨P, 0, none⟩ v') ∧ KeepB T e N W (w1.setCell ⟨P, 0, none⟩ v') := by
  have h1 : Blk w1 P #[v] T := blk_keep hb hv hte hrow hgrow
  refine ⟨⟨v', ?_, ?_⟩, ?_, ?_⟩
  · have := h1.set 0 v'; exact this
  · rw [List.length_append]
    refine hown.kept (grown_cell w1 P 0 v') ?_
    cases hv' : v'.ownBlock with
    | none => exact .inl rfl
    | some j =>
      right
      intro e'
      obtain ⟨_, cur, hc⟩ := row_from' hown hv'
      cases e'
      rw [show w1.heap[P]? = _ from h1] at hc
      injection hc with hc
      injection hc with _ hc _
      exact hte hc
  · exact (((hb.mono hle).grown hgrow (Nat.le_trans hle hb.size) (fun k e => (row_from' hrow e).1))).setCell (p := ⟨P, 0, none⟩) hNP v'
  · intro B cs U hB h2 h3
    refine (blk_keep hb hB h3 hrow hgrow).apart _ _ ?_
    show P ≠ B
    intro e'
    subst e'
    have hB' : W.heap[P]? = some (.cells cs U (0, 0)) := hB
    rw [show W.heap[P]? = _ from hv] at hB'
    injection hB' with hB'
    injection hB' with _ hB' _
    exact h2 hB'.symm
end
end Go.Proofs.YtmkcooamgojbpaaGreatDoor.Blk

/- octets.Writer: Num, Raw, Uint, Int, Bytes. -/
namespace Go.Proofs.YtmkcooamgojbpaaGreatDoor.Octets
set_option linter.unusedVariables false
open Go.RowKit Go.Proofs.YtmkcooamgojbpaaGreatDoor.Kit Go.Proofs.YtmkcooamgojbpaaGreatDoor.Blk
attribute [local go_sem ↓] Go.wp_at_zero Go.wp_at_succ

theorem numG_more (f n : Nat) (h : ¬ n < 128) : numG (f + 1) n = (n % 128 + 128) :: numG f (n / 128) := by rw [numG, if_neg h]
theorem numG_one (f n : Nat) (h : n < 128) : numG f n = [n] := by cases f <;> simp [numG, h]

theorem or8 (m : Nat) : bits .or .u8 ((m : Int) % 256) 128 = ((m % 128 + 128 : Nat) : Int) := by
  have key : ∀ x : Fin 256, bits .or .u8 (x.val : Int) 128 = ((x.val % 128 + 128 : Nat) : Int) := by decide +kernel
  have h := key ⟨m % 256, Nat.mod_lt _ (by decide)⟩
  have e1 : ((m % 256 : Nat) : Int) = (m : Int) % 256 := by omega
  have e2 : m % 256 % 128 = m % 128 := by omega
  dsimp only at h
  rw [e1, e2] at h
  exact h
theorem news_one {w : World} {b : Nat} {T B : Nat} (h : Blk w B #[.int .u8 (b : Int)] T) : ∀ j u, [Value.int .u8 (b : Int)][j]? = some u → w.cell? ((⟨B, 0, none⟩ : Addr).add j) = some u := fun j u hu => by
  rw [Addr.add_mid, Nat.zero_add]; exact h.cell j (by simpa using hu)
theorem news_vals {w : World} {m : List Nat} {T B : Nat} (h : Blk w B (vals m).toArray T) : ∀ j u, (vals m)[j]? = some u → w.cell? ((⟨B, 0, none⟩ : Addr).add j) = some u := fun j u hu => by
  rw [Addr.add_mid, Nat.zero_add]; exact h.cell j (by simpa using hu)
theorem one_vals (m : List Nat) : ∀ u ∈ vals m, u.oneCell' = true := fun u hu => by
  obtain ⟨b, _, rfl⟩ := List.mem_map.1 hu; rfl
theorem slice_of {W : World} {base e size k : Nat} {v : Value} {xs : List Value} (hr : W.ownsRow base e size v k xs) : ∃ a c, v = .slice a k c := by
  rcases hr.2 with ⟨rfl, rfl⟩ | ⟨g, cap, cur, rfl, _⟩
  · exact ⟨_, _, rfl⟩
  · exact ⟨_, _, rfl⟩

end Go.Proofs.YtmkcooamgojbpaaGreatDoor.Octets
