/- Parts of the proof: Octets, BoxRow, OctetsN. -/
import Derived.Test.YtmkcooamgojbpaaDoorPart8
import Derived.Test.YtmkcooamgojbpaaDoorPart10
import Derived.Deep.AppendLies
import Derived.Deep.DrawnRows

/- Bytes written one behind the other: what a writer keeps. -/
namespace Go.Proofs.YtmkcooamgojbpaaDoor.Octets
set_option linter.unusedVariables false
open Go.RowKit Go.Proofs.YtmkcooamgojbpaaDoor.Kit Go.Proofs.YtmkcooamgojbpaaDoor.Blk
attribute [local go_sem ↓] Go.wp_at_zero Go.wp_at_succ

/-- A number in groups of seven bits, the least first. -/
def numG : Nat → Nat → List Nat
  | 0, n => [n]
  | f + 1, n => if n < 128 then [n] else (n % 128 + 128) :: numG f (n / 128)
def numB (n : Nat) : List Nat := numG 10 n
def vals (l : List Nat) : List Value := l.map fun (b : Nat) => Value.int .u8 (b : Int)
theorem vals_app (l k : List Nat) : vals (l ++ k) = vals l ++ vals k := by simp [vals]
theorem vals_len (l : List Nat) : (vals l).length = l.length := by simp [vals]
theorem infoU8 : (Tryd.prog.info? 5).map (fun i => (i.zero, i.size, i.bytes)) = some (some (.int .u8 0), 1, 1) := by kernel_rfl
/-- A writer at block P has written l. -/
def WS (N P : Nat) (l : List Nat) (W : World) : Prop := ∃ v, Blk W P #[v] 273 ∧ W.ownsRow N 5 1 v l.length (vals l)
/-- Block B is neither the writer's nor the one that its bytes lie in. -/
def NR (P B : Nat) (W : World) : Prop := B ≠ P ∧ ∀ v, Blk W P #[v] 273 → v.ownBlock ≠ some B
/-- Nothing below N has changed, nor any block but bytes and writers; nor any but the writer's own. -/
structure Keep (N P : Nat) (w w' : World) : Prop where
  bel : Below N w w'
  blk : ∀ (B : Nat) (cs : Array Value) (T : TypeId), Blk w B cs T → T ≠ 273 → T ≠ 5 → Blk w' B cs T
  apart : ∀ B, B < w.heap.size → NR P B w → NR P B w' ∧ w'.heap[B]? = w.heap[B]?
theorem Keep.refl (N P : Nat) (w : World) : Keep N P w w := ⟨Below.refl _ _, fun _ _ _ h _ _ => h, fun _ _ h => ⟨h, rfl⟩⟩
theorem Keep.trans {N P : Nat} {a b c : World} (h : Keep N P a b) (k : Keep N P b c) : Keep N P a c := ⟨h.bel.trans k.bel, fun B cs T hB h1 h2 => k.blk B cs T (h.blk B cs T hB h1 h2) h1 h2, fun B hB hn =>
  have h1 := h.apart B hB hn
  have h2 := k.apart B (Nat.lt_of_lt_of_le hB h.bel.size) h1.1
  ⟨h2.1, h2.2.trans h1.2⟩⟩
theorem Keep.below {N P : Nat} {w w' : World} (hN : N ≤ w.heap.size) (hP : P < w.heap.size) (h : Below w.heap.size w w') : Keep N P w w' := ⟨h.mono hN, fun B cs T hB _ _ => hB.below h hB.lt, fun B hB hn => ⟨⟨hn.1, fun v hv => hn.2 v (by unfold Blk at hv ⊢; rw [← h.block P hP]; exact hv)⟩, h.block B hB⟩⟩
theorem row_from' {W : World} {base e size k : Nat} {v : Value} {xs : List Value} (hr : W.ownsRow base e size v k xs) {j : Nat} (h : v.ownBlock = some j) : base ≤ j ∧ ∃ cur, W.heap[j]? = some (.cells cur e (0, 0)) := by
  rcases hr.2 with ⟨rfl, _⟩ | ⟨g, cap, cur, rfl, hg, hgb, _⟩
  · simp [Value.ownBlock] at h
  · obtain rfl : g = j := by simpa [Value.ownBlock] using h
    exact ⟨hg, cur, hgb⟩
theorem blk_row' {W W' : World} {B : Nat} {cs : Array Value} {t e base size k : Nat} {v : Value} {xs : List Value} (h : Blk W B cs t) (hte : t ≠ e) (hr : W.ownsRow base e size v k xs) (hg : W.grownBy W' v.ownBlock) : Blk W' B cs t := by
  refine (hg.block B h.lt (fun e' => ?_)).trans h
  obtain ⟨_, cur, hc⟩ := row_from' hr e'.symm
  rw [show W.heap[B]? = _ from h] at hc
  cases hc
  exact hte rfl
theorem grown_cell (W : World) (b j : Nat) (v : Value) : W.grownBy (W.setCell ⟨b, j, none⟩ v) (some b) :=
  ⟨rfl, rfl, rfl, by simp [World.setCell], fun k _ hk => Below.heap_setCell _ _ _ k (fun e => hk (by rw [e]))⟩
theorem blk_keep {W W' w1 : World} {B : Nat} {cs : Array Value} {t e base size k : Nat} {v : Value} {xs : List Value} (hb : Below W.heap.size W W') (h : Blk W B cs t) (hte : t ≠ e) (hr : W.ownsRow base e size v k xs) (hg : W'.grownBy w1 v.ownBlock) : Blk w1 B cs t := by
  refine (hg.block B (Nat.lt_of_lt_of_le h.lt hb.size) (fun e' => ?_)).trans (h.below hb h.lt)
  obtain ⟨_, cur, hc⟩ := row_from' hr e'.symm
  rw [show W.heap[B]? = _ from h] at hc
  cases hc
  exact hte rfl
/-- Bytes appended (W': the world behind what was laid for them). -/
theorem ws_push {N P : Nat} {l m : List Nat} {W W' w1 : World} {v v' : Value} (hb : Below W.heap.size W W') (hv : Blk W P #[v] 273) (hrow : W.ownsRow N 5 1 v l.length (vals l)) (hNP : N ≤ P) (hle : N ≤ W.heap.size)
    (hown : w1.ownsRow N 5 1 v' (l.length + m.length) (vals l ++ vals m)) (hgrow : W'.grownBy w1 v.ownBlock) {g H : Nat} (hv' : v'.ownBlock = some g) (hat : v.ownBlock = some g ∨ g = H) (hH : W.heap.size ≤ H) :
    WS N P (l ++ m) (w1.setCell ⟨P, 0, none⟩ v') ∧ Keep N P W (w1.setCell ⟨P, 0, none⟩ v') := by
  have h1 : Blk w1 P #[v] 273 := blk_keep hb hv (by decide) hrow hgrow
  refine ⟨⟨v', ?_, ?_⟩, ?_, ?_, ?_⟩
  · have := h1.set 0 v'; exact this
  · rw [vals_app, List.length_append]
    refine hown.kept (grown_cell w1 P 0 v') ?_
    cases hv' : v'.ownBlock with
    | none => exact .inl rfl
    | some j =>
      right
      intro e
      obtain ⟨_, cur, hc⟩ := row_from' hown hv'
      cases e
      rw [show w1.heap[P]? = _ from h1] at hc
      cases hc
  · exact (((hb.mono hle).grown hgrow (Nat.le_trans hle hb.size) (fun k e => (row_from' hrow e).1))).setCell (p := ⟨P, 0, none⟩) hNP v'
  · intro B cs T hB h2 h3
    refine (blk_keep hb hB h3 hrow hgrow).apart _ _ ?_
    show P ≠ B
    intro e
    subst e
    have hB' : W.heap[P]? = some (.cells cs T (0, 0)) := hB
    rw [show W.heap[P]? = _ from hv] at hB'
    injection hB' with hB'
    injection hB' with _ hB' _
    exact h2 hB'.symm
  · intro B hB hn
    have hvB : v.ownBlock ≠ some B := hn.2 v hv
    have e1 : w1.heap[B]? = W.heap[B]? := (hgrow.block B (Nat.lt_of_lt_of_le hB hb.size) (fun e => hvB e.symm)).trans (hb.block B hB)
    have e2 : (w1.setCell ⟨P, 0, none⟩ v').heap[B]? = w1.heap[B]? := Below.heap_setCell _ _ _ B (fun e => hn.1 (by first | exact e | exact e.symm))
    refine ⟨⟨hn.1, fun u hu => ?_⟩, e2.trans e1⟩
    have h3 : Blk (w1.setCell ⟨P, 0, none⟩ v') P #[v'] 273 := h1.set 0 v'
    have hu' : (w1.setCell ⟨P, 0, none⟩ v').heap[P]? = some (.cells #[u] 273 (0, 0)) := hu
    rw [show (w1.setCell ⟨P, 0, none⟩ v').heap[P]? = _ from h3] at hu'
    injection hu' with hu'
    injection hu' with hu'
    have hu2 : v' = u := by injection hu' with hu'; injection hu'
    rw [← hu2, hv']
    intro e
    injection e with e
    rcases hat with h | h
    · exact hvB (by rw [h, e])
    · omega
theorem nr_new {N P : Nat} {l : List Nat} {W : World} (h : WS N P l W) (o : Obj) : NR P W.heap.size (W.alloc o) := by
  obtain ⟨v, hv, hrow⟩ := h
  have hP := hv.lt
  refine ⟨by omega, fun u hu => ?_⟩
  have h3 : Blk (W.alloc o) P #[v] 273 := hv.old o
  have hu' : (W.alloc o).heap[P]? = some (.cells #[u] 273 (0, 0)) := hu
  rw [show (W.alloc o).heap[P]? = _ from h3] at hu'
  injection hu' with hu'
  injection hu' with hu'
  have hu2 : v = u := by injection hu' with hu'; injection hu'
  rw [← hu2]
  intro e
  have := (hrow.lt _ e).2
  omega
end Go.Proofs.YtmkcooamgojbpaaDoor.Octets

/- A block of one cell that holds a row of its own; what appending to it leaves alone. -/
namespace Go.Proofs.YtmkcooamgojbpaaDoor.Blk
open Go.RowKit Go.Proofs.YtmkcooamgojbpaaDoor.Kit Go.Proofs.YtmkcooamgojbpaaDoor.Octets
set_option linter.unusedVariables false

def BR (T e N P : Nat) (xs : List Value) (W : World) : Prop := ∃ v, Blk W P #[v] T ∧ W.ownsRow N e 1 v xs.length xs
structure KeepB (T e N : Nat) (w w' : World) : Prop where
  bel : Below N w w'
  blk : ∀ (B : Nat) (cs : Array Value) (U : TypeId), Blk w B cs U → U ≠ T → U ≠ e → Blk w' B cs U
section
variable {T e N P : Nat} {xs ys : List Value} {w W W' w1 : World} {v v' : Value}
theorem KeepB.refl (T e N : Nat) (w : World) : KeepB T e N w w := ⟨Below.refl _ _, fun _ _ _ h _ _ => h⟩
theorem KeepB.trans {a b c : World} (h : KeepB T e N a b) (k : KeepB T e N b c) : KeepB T e N a c := ⟨h.bel.trans k.bel, fun B cs U hB h1 h2 => k.blk B cs U (h.blk B cs U hB h1 h2) h1 h2⟩
theorem KeepB.below (hN : N ≤ w.heap.size) (h : Below w.heap.size w W) : KeepB T e N w W := ⟨h.mono hN, fun B cs U hB _ _ => hB.below h hB.lt⟩
theorem KeepB.alloc (hN : N ≤ w.heap.size) (o : Obj) : KeepB T e N w (w.alloc o) := KeepB.below hN ((Below.refl _ _).alloc (Nat.le_refl _) _)
theorem KeepB.drew (h : KeepB T e N w W) : KeepB T e N w W.drew := ⟨h.bel.drew, fun B cs U hB h1 h2 => (h.blk B cs U hB h1 h2).drew⟩
theorem KeepB.drewN (h : KeepB T e N w W) (n : Nat) : KeepB T e N w (W.drewN n) := ⟨h.bel.drewN n, fun B cs U hB h1 h2 => (h.blk B cs U hB h1 h2).drewN n⟩
theorem BR.lt (h : BR T e N P xs W) : P < W.heap.size := by obtain ⟨v, hv, _⟩ := h; exact hv.lt
theorem BR.below (h : BR T e N P xs W) (hb : Below W.heap.size W W') : BR T e N P xs W' := by
  obtain ⟨v, hv, hr⟩ := h
  exact ⟨v, hv.below hb hv.lt, hr.kept (row := none) ⟨hb.os, hb.tape, hb.output, hb.size, fun k hk _ => hb.block k hk⟩ (by cases v.ownBlock; exact .inl rfl; exact .inr (by simp))⟩
theorem BR.alloc (h : BR T e N P xs W) (o : Obj) : BR T e N P xs (W.alloc o) := h.below ((Below.refl _ _).alloc (Nat.le_refl _) _)
theorem BR.drew (h : BR T e N P xs W) : BR T e N P xs W.drew := h.below (Below.refl _ _).drew
theorem BR.drewN (h : BR T e N P xs W) (n : Nat) : BR T e N P xs (W.drewN n) := h.below ((Below.refl _ _).drewN n)
theorem br_new (w : World) (n : Nat) (hn : w.heap.size = n) : BR T e N n [] (w.alloc (.cells #[.slice none 0 0] T)) := ⟨_, Blk.new _ _ _ _ hn, World.ownsRow_nil _ _ _ _⟩
theorem BR.slice (h : BR T e N P xs W) : ∃ a c, Blk W P #[.slice a xs.length c] T ∧ W.ownsRow N e 1 (.slice a xs.length c) xs.length xs := by
  obtain ⟨v, hv, hr⟩ := h
  rcases hr.2 with ⟨rfl, h0⟩ | ⟨g, cap, cur, rfl, h1⟩
  · have h0 : xs.length = 0 := h0
    rw [h0] at hr ⊢
    exact ⟨_, _, hv, hr⟩
  · exact ⟨_, _, hv, hr⟩
/-- Elements appended (W': the world behind what was laid for them). -/
theorem br_push (hte : T ≠ e) (hb : Below W.heap.size W W') (hv : Blk W P #[v] T) (hrow : W.ownsRow N e 1 v xs.length xs) (hNP : N ≤ P) (hle : N ≤ W.heap.size)
    (hown : w1.ownsRow N e 1 v' (xs.length + ys.length) (xs ++ ys)) (hgrow : W'.grownBy w1 v.ownBlock) :
    BR T e N P (xs ++ ys) (w1.setCell ⟨P, 0, none⟩ v') ∧ KeepB T e N W (w1.setCell ⟨P, 0, none⟩ v') := by
  have h1 : Blk w1 P #[v] T := blk_keep hb hv hte hrow hgrow
  refine ⟨⟨v', ?_, ?_⟩, ?_, ?_⟩
  · have := h1.set 0 v'; exact this
  · rw [List.length_append]
    refine hown.kept (grown_cell w1 P 0 v') ?_
    cases hv' : v'.ownBlock with
    | none => exact .inl rfl
    | some j =>
      right
      intro e'
      obtain ⟨_, cur, hc⟩ := row_from' hown hv'
      cases e'
      rw [show w1.heap[P]? = _ from h1] at hc
      injection hc with hc
      injection hc with _ hc _
      exact hte hc
  · exact (((hb.mono hle).grown hgrow (Nat.le_trans hle hb.size) (fun k e => (row_from' hrow e).1))).setCell (p := ⟨P, 0, none⟩) hNP v'
  · intro B cs U hB h2 h3
    refine (blk_keep hb hB h3 hrow hgrow).apart _ _ ?_
    show P ≠ B
    intro e'
    subst e'
    have hB' : W.heap[P]? = some (.cells cs U (0, 0)) := hB
    rw [show W.heap[P]? = _ from hv] at hB'
    injection hB' with hB'
    injection hB' with _ hB' _
    exact h2 hB'.symm
end
end Go.Proofs.YtmkcooamgojbpaaDoor.Blk

/- octets.Writer: Num, Raw, Uint, Int, Bytes. -/
namespace Go.Proofs.YtmkcooamgojbpaaDoor.Octets
set_option linter.unusedVariables false
open Go.RowKit Go.Proofs.YtmkcooamgojbpaaDoor.Kit Go.Proofs.YtmkcooamgojbpaaDoor.Blk
attribute [local go_sem ↓] Go.wp_at_zero Go.wp_at_succ

theorem numG_more (f n : Nat) (h : ¬ n < 128) : numG (f + 1) n = (n % 128 + 128) :: numG f (n / 128) := by rw [numG, if_neg h]
theorem numG_one (f n : Nat) (h : n < 128) : numG f n = [n] := by cases f <;> simp [numG, h]

theorem or8 (m : Nat) : bits .or .u8 ((m : Int) % 256) 128 = ((m % 128 + 128 : Nat) : Int) := by
  have key : ∀ x : Fin 256, bits .or .u8 (x.val : Int) 128 = ((x.val % 128 + 128 : Nat) : Int) := by decide +kernel
  have h := key ⟨m % 256, Nat.mod_lt _ (by decide)⟩
  have e1 : ((m % 256 : Nat) : Int) = (m : Int) % 256 := by omega
  have e2 : m % 256 % 128 = m % 128 := by omega
  dsimp only at h
  rw [e1, e2] at h
  exact h
theorem news_one {w : World} {b : Nat} {T B : Nat} (h : Blk w B #[.int .u8 (b : Int)] T) : ∀ j u, [Value.int .u8 (b : Int)][j]? = some u → w.cell? ((⟨B, 0, none⟩ : Addr).add j) = some u := fun j u hu => by
  rw [Addr.add_mid, Nat.zero_add]; exact h.cell j (by simpa using hu)
theorem news_vals {w : World} {m : List Nat} {T B : Nat} (h : Blk w B (vals m).toArray T) : ∀ j u, (vals m)[j]? = some u → w.cell? ((⟨B, 0, none⟩ : Addr).add j) = some u := fun j u hu => by
  rw [Addr.add_mid, Nat.zero_add]; exact h.cell j (by simpa using hu)
theorem one_vals (m : List Nat) : ∀ u ∈ vals m, u.oneCell' = true := fun u hu => by
  obtain ⟨b, _, rfl⟩ := List.mem_map.1 hu; rfl
theorem slice_of {W : World} {base e size k : Nat} {v : Value} {xs : List Value} (hr : W.ownsRow base e size v k xs) : ∃ a c, v = .slice a k c := by
  rcases hr.2 with ⟨rfl, rfl⟩ | ⟨g, cap, cur, rfl, _⟩
  · exact ⟨_, _, rfl⟩
  · exact ⟨_, _, rfl⟩

set_option maxRecDepth 20000 in
set_option maxHeartbeats 2000000 in
theorem num_any (N P : Nat) (hNP : N ≤ P) (l : List Nat) (hl : l.length ≤ 10000) (n : Nat) (hn : n < 18446744073709551616) (w : World) (hN : N ≤ w.heap.size) (hw : WS N P l w) :
    Calls Tryd.prog 239 #[.pointer (some ⟨P, 0, none⟩), .int .u64 n] w fun e w' => e = .returned (.pointer (some ⟨P, 0, none⟩)) ∧ WS N P (l ++ numB n) w' ∧ Keep N P w w' := by
  obtain ⟨i0, hi0, hz0, hz1, hz2⟩ := info_parts infoU8
  have HW := Lib.hid hw
  clear hw
  go_enter Tryd.func239, Tryd.ntmps239
  go_wp2_with fail
  go_loopw [1] (fun x wr => ∃ (f m : Nat) (k : List Nat), x = .int .u64 m ∧ f ≤ 10 ∧ m < 128 ^ (f + 1) ∧ m < 18446744073709551616 ∧ k.length + f ≤ l.length + 10 ∧ k ++ numG f m = l ++ numB n ∧ WS N P k wr ∧ Keep N P w wr) (fun x _ => (intOf x).toNat)
  case atStart => exact ⟨10, n, l, rfl, by omega, Nat.lt_trans hn (by decide), hn, by omega, rfl, HW.out, Keep.refl _ _ _⟩
  case round =>
    obtain ⟨f, m, k, rfl, hf, hm, hm2, hkl, hkn, ⟨v, hv, hrow⟩, hkp⟩ := hrel
    have HV := Lib.hid hv
    have HROW := Lib.hid hrow
    have HKP := Lib.hid hkp
    have HKN := Lib.hid hkn
    have HM := Lib.hid hm
    obtain ⟨va, vc, rfl⟩ := slice_of hrow
    have hc : wr.cell? ⟨P, 0, none⟩ = some (.slice va k.length vc) := hv.cell 0 rfl
    clear hv hrow hkp hkn hm
    by_cases hlt : 128 ≤ m
    · have g1 : (128 : Int) ≤ (m : Int) := by omega
      obtain ⟨f', rfl⟩ : ∃ f', f = f' + 1 := by
        cases f with
        | zero => have := HM.out; rw [Nat.zero_add, Nat.pow_one] at this; omega
        | succ f' => exact ⟨f', rfl⟩
      have HM2 := Lib.hid (show m / 128 < 128 ^ (f' + 1) by have h := HM.out; rw [Nat.pow_succ] at h; exact Nat.div_lt_of_lt_mul (by rw [Nat.mul_comm]; exact h))
      obtain ⟨b, hb⟩ : ∃ b, b = m % 128 + 128 := ⟨_, rfl⟩
      have hb8 : bits .or .u8 ((m : Int) % 256) 128 = (b : Int) := by rw [hb]; exact or8 m
      have HKN2 := Lib.hid (show k ++ [b] ++ numG f' (m / 128) = l ++ numB n by rw [← HKN.out, numG_more _ _ (by omega), hb]; simp)
      clear hb HM HKN
      have HNW := Lib.hid (Blk.new wr #[.int .u8 (b : Int)] 5 wr.heap.size rfl)
      have HRA := Lib.hid (HROW.out.alloc (.cells #[.int .u8 (b : Int)] 5))
      have hle : N ≤ wr.heap.size := Nat.le_trans hN HKP.out.bel.size
      go_wp2_with
      (at_builtin; refine wpList_append_lies _ (by rfl) _ _ _ (by rfl) N 5 i0 (.int .u8 0) 1 1 Tryd.underlying40 hi0 hz0 hz1 hz2 (by rfl) (by decide) _ k.length (vals k) (by rfl) HRA.out ⟨wr.heap.size, 0, none⟩ 1 1 [.int .u8 (b : Int)] (by rfl) (by rfl) (news_one HNW.out) (by simp [Value.oneCell']) (by decide) (by unfold maxLen; omega) (by omega) (by simp; omega) (wr.heap.size + 1) (by simp) ?_; intro ga ca w5 hown hgrow hat hlt5; have HPU := Lib.hid (ws_push (m := [b]) ((Below.refl _ _).alloc (Nat.le_refl _) (.cells #[.int .u8 (b : Int)] 5)) HV.out HROW.out hNP hle hown hgrow rfl hat (by omega)); have c5 : w5.cell? ⟨P, 0, none⟩ = some (.slice va k.length vc) := (blk_row' (HV.out.old (.cells #[.int .u8 (b : Int)] 5)) (by decide) HRA.out hgrow).cell 0 rfl; have f5 : w5.frozen? ⟨P, 0, none⟩ = false := (blk_row' (HV.out.old (.cells #[.int .u8 (b : Int)] 5)) (by decide) HRA.out hgrow).free 0; clear hown hgrow hat hlt5)
      go_roundw
      case rel => exact ⟨f', m / 128, k ++ [b], by simp, by omega, HM2.out, by omega, by rw [List.length_append]; simp; omega, HKN2.out, HPU.out.1, HKP.out.trans HPU.out.2⟩
      case measure => simp [intOf]; omega
    · have g1 : (m : Int) < 128 := by omega
      have hb7 : (m : Int) % 256 = (m : Int) := by omega
      obtain ⟨b, rfl⟩ : ∃ b, b = m := ⟨_, rfl⟩
      have HFIN := Lib.hid (show k ++ [b] = l ++ numB n by rw [← HKN.out, numG_one _ _ (by omega)])
      clear HM HKN
      have HNW := Lib.hid (Blk.new wr #[.int .u8 (b : Int)] 5 wr.heap.size rfl)
      have HRA := Lib.hid (HROW.out.alloc (.cells #[.int .u8 (b : Int)] 5))
      have hle : N ≤ wr.heap.size := Nat.le_trans hN HKP.out.bel.size
      go_wp2_with
      (at_builtin; refine wpList_append_lies _ (by rfl) _ _ _ (by rfl) N 5 i0 (.int .u8 0) 1 1 Tryd.underlying40 hi0 hz0 hz1 hz2 (by rfl) (by decide) _ k.length (vals k) (by rfl) HRA.out ⟨wr.heap.size, 0, none⟩ 1 1 [.int .u8 (b : Int)] (by rfl) (by rfl) (news_one HNW.out) (by simp [Value.oneCell']) (by decide) (by unfold maxLen; omega) (by omega) (by simp; omega) (wr.heap.size + 1) (by simp) ?_; intro ga ca w5 hown hgrow hat hlt5; have HPU := Lib.hid (ws_push (m := [b]) ((Below.refl _ _).alloc (Nat.le_refl _) (.cells #[.int .u8 (b : Int)] 5)) HV.out HROW.out hNP hle hown hgrow rfl hat (by omega)); have c5 : w5.cell? ⟨P, 0, none⟩ = some (.slice va k.length vc) := (blk_row' (HV.out.old (.cells #[.int .u8 (b : Int)] 5)) (by decide) HRA.out hgrow).cell 0 rfl; have f5 : w5.frozen? ⟨P, 0, none⟩ = false := (blk_row' (HV.out.old (.cells #[.int .u8 (b : Int)] 5)) (by decide) HRA.out hgrow).free 0; clear hown hgrow hat hlt5)
      go_ret
      exact ⟨rfl, by rw [← HFIN.out]; exact HPU.out.1, HKP.out.trans HPU.out.2⟩

set_option maxRecDepth 20000 in
theorem raw_any (N P : Nat) (hNP : N ≤ P) (k m : List Nat) (hk : k.length ≤ 10000) (hm0 : 0 < m.length) (hm : m.length ≤ 10000) (B c : Nat) (w : World) (hN : N ≤ w.heap.size) (hw : WS N P k w) (hB : Blk w B (vals m).toArray 5) :
    Calls Tryd.prog 238 #[.pointer (some ⟨P, 0, none⟩), .slice (some ⟨B, 0, none⟩) m.length c] w fun e w' => e = .returned (.pointer (some ⟨P, 0, none⟩)) ∧ WS N P (k ++ m) w' ∧ Keep N P w w' := by
  obtain ⟨i0, hi0, hz0, hz1, hz2⟩ := info_parts infoU8
  obtain ⟨v, hv, hrow⟩ := hw
  have HV := Lib.hid hv
  have HROW := Lib.hid hrow
  have HBB := Lib.hid hB
  obtain ⟨va, vc, rfl⟩ := slice_of hrow
  have hc : w.cell? ⟨P, 0, none⟩ = some (.slice va k.length vc) := hv.cell 0 rfl
  have HLM := Lib.hid (vals_len m)
  clear hv hrow hB
  go_enter Tryd.func238, Tryd.ntmps238
  go_wp2_with (at_builtin; refine wpList_append_lies _ (by rfl) _ _ _ (by rfl) N 5 i0 (.int .u8 0) 1 1 Tryd.underlying40 hi0 hz0 hz1 hz2 (by rfl) (by decide) _ k.length (vals k) (by rfl) HROW.out ⟨B, 0, none⟩ m.length c (vals m) (by rfl) (by rw [HLM.out, Nat.mul_one]) (news_vals HBB.out) (one_vals m) hm0 (by unfold maxLen; omega) (by omega) hN w.heap.size rfl ?_; intro ga ca w5 hown hgrow hat hlt5; have HPU := Lib.hid (ws_push (m := m) (Below.refl _ _) HV.out HROW.out hNP hN hown hgrow rfl hat (Nat.le_refl _)); have c5 : w5.cell? ⟨P, 0, none⟩ = some (.slice va k.length vc) := (blk_row' HV.out (by decide) HROW.out hgrow).cell 0 rfl; have f5 : w5.frozen? ⟨P, 0, none⟩ = false := (blk_row' HV.out (by decide) HROW.out hgrow).free 0; clear hown hgrow hat hlt5)
  go_ret
  exact ⟨rfl, HPU.out.1, HPU.out.2⟩
end Go.Proofs.YtmkcooamgojbpaaDoor.Octets
