/- Parts of the proof: Kit, Blk, Fix, All, First, Symbol, Sym, RefSymbol, Table, Check, RefCheck, CheckEq, RefCheckW. -/
import Derived.Test.YtmkcooamgojbpaaGreatDoorProg
import Derived.WalkKit
import Derived.WalkLawsBesides
import Derived.WalkSpells
import Derived.Lib.Hide
import Derived.BigQuiet
import Derived.Deep.QuietTactic
import Derived.Deep.AppendLies
import Derived.KernelRfl
import Derived.Laws.EntriesVeiled

/- Plain lemmas on worlds and cells, used by all walks of this seat. -/
namespace Go.Proofs.YtmkcooamgojbpaaGreatDoor.Kit
open Go.RowKit

theorem cell_new (w : World) (cs : Array Value) (T : TypeId) (n j : Nat) (v : Value) (hn : w.heap.size = n) (h : cs[j]? = some v) :
    (w.alloc (.cells cs T)).cell? ⟨n, j, none⟩ = some v := by
  subst hn
  simp only [World.cell?, heap_alloc_new]
  simpa using h
theorem cell_old (w : World) (o : Obj) (a : Addr) (h : a.block < w.heap.size) : (w.alloc o).cell? a = w.cell? a :=
  World.cell?_of_block (Below.heap_alloc w o a.block h)
theorem frozen_old (w : World) (o : Obj) (a : Addr) (h : a.block < w.heap.size) : (w.alloc o).frozen? a = w.frozen? a :=
  World.frozen?_of_block (Below.heap_alloc w o a.block h)

/-- What is known of the first blocks stays known. -/
theorem keeps {W w1 : World} (hb : Below W.heap.size W w1) : (∀ b o, b < W.heap.size → w1.cell? ⟨b, o, none⟩ = W.cell? ⟨b, o, none⟩) ∧ (∀ b o, b < W.heap.size → w1.frozen? ⟨b, o, none⟩ = W.frozen? ⟨b, o, none⟩) :=
  ⟨fun b o h => hb.cell (p := ⟨b, o, none⟩) h, fun b o h => hb.frozen (p := ⟨b, o, none⟩) h⟩

/-- Numbers in a row of cells. -/
def Nums (w : World) (a : Option Addr) (l : List Int) : Prop :=
  ∀ i, (h : i < l.length) → ∃ b off, a = some ⟨b, off, none⟩ ∧ b < w.heap.size ∧ w.cell? ⟨b, off + i, none⟩ = some (.int .i64 l[i])

theorem Nums.below {w w' : World} {a : Option Addr} {l : List Int} (h : Nums w a l) (hb : Below w.heap.size w w') : Nums w' a l := by
  intro i hi
  obtain ⟨b, off, ha, hl, hc⟩ := h i hi
  exact ⟨b, off, ha, Nat.lt_of_lt_of_le hl hb.size, by rw [hb.cell (p := ⟨b, _, none⟩) hl]; exact hc⟩

theorem nums_new (w : World) (cs : Array Value) (T n : Nat) (l : List Int) (hn : w.heap.size = n) (hcs : cs = (l.map (Value.int .i64)).toArray) :
    Nums (w.alloc (.cells cs T)) (some ⟨n, 0, none⟩) l := by
  intro i hi
  refine ⟨n, 0, rfl, by simp [hn], ?_⟩
  rw [Nat.zero_add]
  exact cell_new _ _ _ _ _ _ hn (by subst hcs; simp [hi])

theorem callFunc_enter {P : Program} {f : FuncId} {fn : Func} (hf : P.funcs[f]? = some fn) (hn : (fn.name == "runtime.NumGoroutine") = false) (hb : fn.body.isNone = false) (args : Array Value) (w : World) :
    (callFunc f args).run P w = .ok (.enter f args) w := by
  rw [beq_eq_false_iff_ne] at hn
  have hb' : fn.body ≠ none := fun h => by simp [h] at hb
  simp [callFunc, hf, hn, hb']

theorem ret_int {k : IntKind} {a b : Int} (h : a = b) : Ending.returned (.int k a) = .returned (.int k b) := by rw [h]
theorem ret_bool {a b : Bool} (h : a = b) : Ending.returned (.bool a) = .returned (.bool b) := by rw [h]

def allIn (lo hi : Int) (l : List Int) : Bool := l.all fun n => !(decide (n < lo) || decide (hi < n))
end Go.Proofs.YtmkcooamgojbpaaGreatDoor.Kit

/- Blocks that are known whole; and worlds in which one old block may have changed. -/
namespace Go.Proofs.YtmkcooamgojbpaaGreatDoor.Blk
open Go.RowKit Go.Proofs.YtmkcooamgojbpaaGreatDoor.Kit

/-- Block B holds just these cells, none of them frozen. -/
def Blk (w : World) (B : Nat) (cs : Array Value) (T : TypeId) : Prop := w.heap[B]? = some (.cells cs T (0, 0))

section
variable {w w' : World} {B : Nat} {cs : Array Value} {T : TypeId}
theorem Blk.cell (h : Blk w B cs T) (j : Nat) {v : Value} (hv : cs[j]? = some v) : w.cell? ⟨B, j, none⟩ = some v := by
  unfold Blk at h
  simp only [World.cell?, h]
  simpa using hv
theorem Blk.free (h : Blk w B cs T) (j : Nat) : w.frozen? ⟨B, j, none⟩ = false := by
  unfold Blk at h
  simp only [World.frozen?, h]
  simp
theorem Blk.lt (h : Blk w B cs T) : B < w.heap.size := (Array.getElem?_eq_some_iff.1 h).1
theorem Blk.new (w : World) (cs : Array Value) (T n : Nat) (hn : w.heap.size = n) : Blk (w.alloc (.cells cs T)) n cs T := by
  subst hn; exact heap_alloc_new w _
theorem Blk.old (h : Blk w B cs T) (o : Obj) : Blk (w.alloc o) B cs T := by
  unfold Blk; rw [Below.heap_alloc w o B h.lt]; exact h
theorem Blk.drew (h : Blk w B cs T) : Blk w.drew B cs T := h
theorem Blk.drewN (h : Blk w B cs T) (n : Nat) : Blk (w.drewN n) B cs T := h
theorem Blk.below {n : Nat} (h : Blk w B cs T) (hb : Below n w w') (hB : B < n) : Blk w' B cs T := by
  unfold Blk; rw [hb.block B hB]; exact h
theorem Blk.set (h : Blk w B cs T) (j : Nat) (v : Value) : Blk (w.setCell ⟨B, j, none⟩ v) B (cs.setIfInBounds j v) T := by
  have hl := h.lt
  unfold Blk at *
  simp only [World.setCell, Array.getElem?_modify]
  simp [h]
theorem Blk.apart (h : Blk w B cs T) (a : Addr) (v : Value) (hne : a.block ≠ B) : Blk (w.setCell a v) B cs T := by
  unfold Blk; rw [Below.heap_setCell _ _ _ _ (fun e => hne e.symm)]; exact h
end

theorem _root_.Go.RowKit.Below.drewN {n : Nat} {a w : World} (h : Below n a w) (k : Nat) : Below n a (w.drewN k) := ⟨h.os, h.tape, h.output, h.size, h.block⟩

/-- Below number n nothing has changed but block d. -/
structure Chg (n d : Nat) (w w' : World) : Prop where
  os : w'.os = w.os
  tape : w'.tape = w.tape
  output : w'.output = w.output
  size : w.heap.size ≤ w'.heap.size
  block : ∀ k, k < n → k ≠ d → w'.heap[k]? = w.heap[k]?

section
variable {n d : Nat} {a w w' : World}
theorem Chg.refl (n d : Nat) (w : World) : Chg n d w w := ⟨rfl, rfl, rfl, Nat.le_refl _, fun _ _ _ => rfl⟩
theorem Chg.trans {b c : World} (h : Chg n d a b) (k : Chg n d b c) : Chg n d a c :=
  ⟨k.os.trans h.os, k.tape.trans h.tape, k.output.trans h.output, Nat.le_trans h.size k.size, fun i hi hd => (k.block i hi hd).trans (h.block i hi hd)⟩
theorem Chg.mono {n' : Nat} (h : Chg n d w w') (hn : n' ≤ n) : Chg n' d w w' := ⟨h.os, h.tape, h.output, h.size, fun k hk => h.block k (Nat.lt_of_lt_of_le hk hn)⟩
theorem Chg.of (h : Below n w w') : Chg n d w w' := ⟨h.os, h.tape, h.output, h.size, fun k hk _ => h.block k hk⟩
theorem Chg.below (h : Chg n d w w') (hd : n ≤ d) : Below n w w' := ⟨h.os, h.tape, h.output, h.size, fun k hk => h.block k hk (by omega)⟩
theorem Chg.below' {m : Nat} (h : Chg n d w w') (hd : m ≤ d) (hm : m ≤ n) : Below m w w' := ⟨h.os, h.tape, h.output, h.size, fun k hk => h.block k (by omega) (by omega)⟩
theorem Chg.step {w2 : World} (h : Chg n d a w) (k : Below n w w2) : Chg n d a w2 := h.trans (Chg.of k)
theorem Chg.alloc (h : Chg n d a w) (hn : n ≤ w.heap.size) (o : Obj) : Chg n d a (w.alloc o) := h.step ((Below.refl _ _).alloc hn o)
theorem Chg.drew (h : Chg n d a w) : Chg n d a w.drew := h.step (Below.refl _ _).drew
theorem Chg.setCell (h : Chg n d a w) (p : Addr) (v : Value) (hp : p.block = d ∨ n ≤ p.block) : Chg n d a (w.setCell p v) :=
  h.trans ⟨rfl, rfl, rfl, by simp [World.setCell], fun k hk hd => Below.heap_setCell _ _ _ _ (by omega)⟩
theorem Chg.blk {B : Nat} {cs : Array Value} {T : TypeId} (h : Chg n d w w') (hB : B < n) (hd : B ≠ d) (hb : Blk w B cs T) : Blk w' B cs T := by
  unfold Blk; rw [h.block B hB hd]; exact hb
theorem Chg.cell (h : Chg n d w w') {p : Addr} (hp : p.block < n) (hd : p.block ≠ d) : w'.cell? p = w.cell? p := World.cell?_of_block (h.block p.block hp hd)
end
end Go.Proofs.YtmkcooamgojbpaaGreatDoor.Blk

/- fix.Down and fix.Price. -/
namespace Go.Proofs.YtmkcooamgojbpaaGreatDoor.Fix
open Go.RowKit Go.Proofs.YtmkcooamgojbpaaGreatDoor.Kit

def down (p g : Int) : Int := if p < 0 ∨ g < 1 then 0 else p / g * g

theorem div_mul_le (p g : Int) (h : 1 ≤ g) : p / g * g ≤ p := Int.ediv_mul_le _ (by omega)
theorem div_mul_nonneg (p g : Int) (h0 : 0 ≤ p) (h : 1 ≤ g) : 0 ≤ p / g * g := Int.mul_nonneg (Int.ediv_nonneg h0 (by omega)) (by omega)
theorem wrap_in (n : Int) (h0 : -9223372036854775808 ≤ n) (h1 : n ≤ 9223372036854775807) : wrap64 n = n := by unfold wrap64; omega

theorem down_any (p g : Int) (w : World) (hp : p ≤ 9223372036854775807) :
    Calls Tryz.prog 95 #[.int .i64 p, .int .i64 g] w fun e w' => e = .returned (.int .i64 (down p g)) ∧ w = w' := by
  by_cases h0 : p < 0
  · go_enter Tryz.func95, Tryz.ntmps95
    go_wp2
    go_ret
    exact ⟨by simp [down, h0], rfl⟩
  · by_cases h1 : g < 1
    · go_enter Tryz.func95, Tryz.ntmps95
      go_wp2
      go_ret
      exact ⟨by simp [down, h1], rfl⟩
    · have hd := Lib.hid (wrap_in (p / g * g) (by have := div_mul_nonneg p g (by omega) (by omega); omega) (by have := div_mul_le p g (by omega); omega))
      have h0' : 0 ≤ p := by omega
      have h1' : 1 ≤ g := by omega
      go_enter Tryz.func95, Tryz.ntmps95
      go_wp2
      go_ret
      refine ⟨?_, rfl⟩
      have e : down p g = p / g * g := by unfold down; rw [if_neg (by omega)]
      rw [e]
      exact ret_int hd.out

def price (p g : Int) : Int := if g < 1 then 1 else if p < 1 ∨ 1099511627776 < p then 9 else if down p g = p then 0 else 8

theorem price_any (p g : Int) (w : World) :
    Calls Tryz.prog 69 #[.int .i64 p, .int .i64 g] w fun e w' => e = .returned (.int .i64 (price p g)) ∧ w = w' := by
  by_cases h0 : g < 1
  · go_enter Tryz.func69, Tryz.ntmps69
    go_wp2
    go_ret
    exact ⟨by simp [price, h0], rfl⟩
  · by_cases h1 : p < 1
    · go_enter Tryz.func69, Tryz.ntmps69
      go_wp2
      go_ret
      exact ⟨by simp [price, h0, h1], rfl⟩
    · by_cases h2 : 1099511627776 < p
      · go_enter Tryz.func69, Tryz.ntmps69
        go_wp2
        go_ret
        exact ⟨by simp [price, h0, h2], rfl⟩
      · by_cases hd : down p g = p
        · have hd' : (down p g != p) = false := by simp [hd]
          have HD := Lib.hid (show price p g = 0 by unfold price; rw [if_neg h0, if_neg (by omega), if_pos hd])
          clear hd
          go_enter Tryz.func69, Tryz.ntmps69
          go_wp2_with (go_at_call 95; refine (down_any _ _ _ (by omega)).mono ?_; rintro e w' ⟨rfl, rfl⟩)
          go_ret
          exact ⟨ret_int HD.out.symm, rfl⟩
        · have hd' : (down p g != p) = true := by simp [hd]
          have HD := Lib.hid (show price p g = 8 by unfold price; rw [if_neg h0, if_neg (by omega), if_neg hd])
          clear hd
          go_enter Tryz.func69, Tryz.ntmps69
          go_wp2_with (go_at_call 95; refine (down_any _ _ _ (by omega)).mono ?_; rintro e w' ⟨rfl, rfl⟩)
          go_ret
          exact ⟨ret_int HD.out.symm, rfl⟩
end Go.Proofs.YtmkcooamgojbpaaGreatDoor.Fix

/- config.all: are all numbers from lo to hi? -/
namespace Go.Proofs.YtmkcooamgojbpaaGreatDoor.All
open Go.RowKit Go.Proofs.YtmkcooamgojbpaaGreatDoor.Kit

def bad (lo hi n : Int) : Bool := decide (n < lo) || decide (hi < n)

theorem bad_any (n lo hi : Int) (pl ph : Addr) (w : World) (hl : w.cell? pl = some (.int .i64 lo)) (hh : w.cell? ph = some (.int .i64 hi)) :
    Calls Tryz.prog 66 #[.int .i64 n, .pointer (some pl), .pointer (some ph)] w fun e w' => e = .returned (.bool (bad lo hi n)) ∧ w = w' := by
  by_cases h1 : n < lo
  · go_enter Tryz.func66, Tryz.ntmps66
    go_wp2
    go_ret
    exact ⟨by simp [bad, h1], rfl⟩
  · by_cases h2 : hi < n
    · go_enter Tryz.func66, Tryz.ntmps66
      go_wp2
      go_ret
      exact ⟨by simp [bad, h2], rfl⟩
    · go_enter Tryz.func66, Tryz.ntmps66
      go_wp2
      go_ret
      exact ⟨by simp [bad, h1, h2], rfl⟩

def firstBad (lo hi : Int) : List Int → Nat → Int
  | [], _ => -1
  | n :: l, i => if bad lo hi n then i else firstBad lo hi l (i + 1)

theorem firstBad_hit (lo hi : Int) (l : List Int) (k i : Nat) (h : k < l.length) (hp : bad lo hi l[k] = true) : firstBad lo hi (l.drop k) i = i := by
  rw [List.drop_eq_getElem_cons h]
  simp only [firstBad, hp, if_true]
theorem firstBad_miss (lo hi : Int) (l : List Int) (k i : Nat) (h : k < l.length) (hp : bad lo hi l[k] = false) : firstBad lo hi (l.drop k) i = firstBad lo hi (l.drop (k + 1)) (i + 1) := by
  rw [List.drop_eq_getElem_cons h]
  simp [firstBad, hp]

set_option maxHeartbeats 1000000 in
theorem index_any (a : Option Addr) (cap : Nat) (l : List Int) (lo hi : Int) (bl bh : Nat) (w : World) (hm : l.length ≤ maxLen) (hn : Nums w a l)
    (hl : w.cell? ⟨bl, 0, none⟩ = some (.int .i64 lo)) (hh : w.cell? ⟨bh, 0, none⟩ = some (.int .i64 hi)) :
    Calls Tryz.prog 94 #[.slice a l.length cap, .func (.func 66) #[] #[.pointer (some ⟨bl, 0, none⟩), .pointer (some ⟨bh, 0, none⟩)]] w fun e w' =>
    e = .returned (.int .i64 (firstBad lo hi l 0)) ∧ w = w' := by
  unfold maxLen at hm
  go_enter Tryz.func94, Tryz.ntmps94
  go_wp2
  go_loop [8] (fun i => ∃ k : Nat, k ≤ l.length ∧ i = .int .i64 k ∧ firstBad lo hi (l.drop k) k = firstBad lo hi l 0) (fun i => l.length - (intOf i).toNat)
  case atStart => exact ⟨0, by omega, rfl, rfl⟩
  case round =>
    obtain ⟨k, hk, rfl, hf⟩ := hrel
    have HF := Lib.hid hf
    clear hf
    by_cases hlt : k < l.length
    · obtain ⟨b, off, rfl, _, hc⟩ := hn k hlt
      clear hn
      by_cases hp : bad lo hi l[k] = true
      · have HH := Lib.hid (firstBad_hit lo hi l k k hlt hp)
        go_wp2_with (go_at_call 66; refine (bad_any _ _ _ _ _ _ hl hh).mono ?_; rintro e w' ⟨rfl, rfl⟩)
        go_ret
        exact ⟨by rw [← HF.out, HH.out]; rfl, rfl⟩
      · have hp : bad lo hi l[k] = false := by simpa using hp
        have HH := Lib.hid (firstBad_miss lo hi l k k hlt hp)
        go_wp2_with (go_at_call 66; refine (bad_any _ _ _ _ _ _ hl hh).mono ?_; rintro e w' ⟨rfl, rfl⟩)
        go_round
        case rel => exact ⟨k + 1, by omega, by go_num, by rw [← HH.out, HF.out]⟩
        case measure => simp [intOf]; omega
    · go_wp2
      go_ret
      exact ⟨by rw [← HF.out, List.drop_eq_nil_of_le (by omega)]; rfl, rfl⟩

theorem firstBad_sign (lo hi : Int) (l : List Int) (i : Nat) : decide (0 ≤ firstBad lo hi l i) = !allIn lo hi l := by
  induction l generalizing i with
  | nil => rfl
  | cons n l ih =>
    simp only [firstBad, allIn, List.all_cons]
    split
    · rename_i h
      simp only [bad] at h
      simp [h]
    · rename_i h
      have h' : bad lo hi n = false := by simpa using h
      simp only [bad] at h'
      have ih' := ih (i + 1)
      unfold allIn at ih'
      rw [h', ih']
      rfl

theorem contains_any (a : Option Addr) (cap : Nat) (l : List Int) (lo hi : Int) (bl bh : Nat) (w : World) (hm : l.length ≤ maxLen) (hn : Nums w a l)
    (hl : w.cell? ⟨bl, 0, none⟩ = some (.int .i64 lo)) (hh : w.cell? ⟨bh, 0, none⟩ = some (.int .i64 hi)) :
    Calls Tryz.prog 65 #[.slice a l.length cap, .func (.func 66) #[] #[.pointer (some ⟨bl, 0, none⟩), .pointer (some ⟨bh, 0, none⟩)]] w fun e w' =>
    e = .returned (.bool (!allIn lo hi l)) ∧ w = w' := by
  go_enter Tryz.func65, Tryz.ntmps65
  go_wp2_with fail
  refine (index_any a cap l lo hi bl bh _ hm hn hl hh).mono ?_
  rintro e w' ⟨rfl, rfl⟩
  have hs := Lib.hid (firstBad_sign lo hi l 0)
  go_wp2
  go_ret
  exact ⟨by rw [← hs.out]; rfl, rfl⟩

theorem all_any (a : Option Addr) (cap : Nat) (l : List Int) (lo hi : Int) (w : World) (hm : l.length ≤ maxLen) (hn : Nums w a l) :
    Calls Tryz.prog 29 #[.int .i64 lo, .int .i64 hi, .slice a l.length cap] w fun e w' =>
    e = .returned (.bool (allIn lo hi l)) ∧ Below w.heap.size w w' := by
  go_enter Tryz.func29, Tryz.ntmps29
  go_wp2_with fail
  refine (contains_any a cap l lo hi w.heap.size (w.heap.size + 1) _ hm ?_ ?_ (cell_new _ _ _ _ _ _ (by simp) rfl)).mono ?_
  · exact hn.below (((Below.refl _ _).alloc (Nat.le_refl _) _).alloc (by simp) _)
  · rw [cell_old _ _ _ (by simp)]; exact cell_new _ _ _ _ _ _ rfl rfl
  · rintro e w' ⟨rfl, rfl⟩
    go_wp2
    go_ret
    exact ⟨by simp, ((Below.refl _ _).alloc (Nat.le_refl _) _).alloc (by simp) _⟩
end Go.Proofs.YtmkcooamgojbpaaGreatDoor.All

/- config.first: the fault of the first rule that does not hold. -/
namespace Go.Proofs.YtmkcooamgojbpaaGreatDoor.First
open Go.RowKit Go.Proofs.YtmkcooamgojbpaaGreatDoor.Kit

/-- A rule: the function, what it has captured, its fault, and whether it holds. -/
structure R where
  f : Nat
  c : Array Value
  e : Int
  is : Bool

def fault : List R → Int
  | [] => 0
  | r :: l => if r.is then fault l else r.e

theorem fault_hit (l : List R) (k : Nat) (h : k < l.length) (hp : l[k].is = false) : fault (l.drop k) = l[k].e := by
  rw [List.drop_eq_getElem_cons h]
  simp [fault, hp]
theorem fault_miss (l : List R) (k : Nat) (h : k < l.length) (hp : l[k].is = true) : fault (l.drop k) = fault (l.drop (k + 1)) := by
  rw [List.drop_eq_getElem_cons h]
  simp [fault, hp]

set_option maxHeartbeats 1000000 in
theorem first_any (b cap : Nat) (l : List R) (w : World) (hm : l.length ≤ maxLen) (hbl : b < w.heap.size)
    (hc : ∀ i, (h : i < l.length) → w.cell? ⟨b, i * 2, none⟩ = some (.func (.func l[i].f) #[] l[i].c) ∧ w.cell? ⟨b, i * 2 + 1, none⟩ = some (.int .i64 l[i].e))
    (hin : ∀ i, (h : i < l.length) → ∀ w, (callFunc l[i].f l[i].c).run Tryz.prog w = .ok (.enter l[i].f l[i].c) w)
    (hf : ∀ i, (h : i < l.length) → (∀ j, (h' : j < i) → l[j].is = true) → ∀ w', Below w.heap.size w w' → Calls Tryz.prog l[i].f l[i].c w' fun e w'' => e = .returned (.bool l[i].is) ∧ Below w'.heap.size w' w'') :
    Calls Tryz.prog 33 #[.slice (some ⟨b, 0, none⟩) l.length cap] w fun e w' =>
    e = .returned (.int .i64 (fault l)) ∧ Below w.heap.size w w' := by
  unfold maxLen at hm
  go_enter Tryz.func33, Tryz.ntmps33
  go_wp2
  go_loopw [7] (fun i wr => ∃ k : Nat, k ≤ l.length ∧ i = .int .i64 k ∧ Below w.heap.size w wr ∧ (∀ j, (h' : j < l.length) → j < k → l[j].is = true) ∧ fault (l.drop k) = fault l) (fun i _ => l.length - (intOf i).toNat)
  case atStart => exact ⟨0, by omega, rfl, Below.refl _ _, fun j _ h => absurd h (Nat.not_lt_zero _), rfl⟩
  case round =>
    obtain ⟨k, hk, rfl, hb, hall, hfl⟩ := hrel
    have HF := Lib.hid hfl
    have HALL := Lib.hid hall
    clear hfl hall
    by_cases hlt : k < l.length
    · have ⟨hc1, hc2⟩ := hc k hlt
      rw [← hb.cell (p := ⟨b, _, none⟩) hbl] at hc1 hc2
      have hcall := Lib.hid (hf k hlt (fun j h' => HALL.out j (by omega) h') (wr.alloc (.cells #[.func (.func l[k].f) #[] l[k].c, .int .i64 l[k].e] 81)) (hb.alloc hb.size _))
      have hin' := hin k hlt
      clear hc hf hin
      have HM := Lib.hid (fault_miss l k hlt)
      have HT := Lib.hid (fault_hit l k hlt)
      have HA : Hid (l[k].is = true → ∀ j, (h' : j < l.length) → j < k + 1 → l[j].is = true) := fun hp j h' h2 => by
        rcases Nat.lt_or_eq_of_le (Nat.le_of_lt_succ h2) with h3 | rfl
        · exact HALL.out j h' h3
        · exact hp
      clear HALL
      generalize l[k] = r at hc1 hc2 hcall HM HT HA hin'
      obtain ⟨f, c, e, is⟩ := r
      dsimp only at hc1 hc2 hin'
      have hlw : b < wr.heap.size := Nat.lt_of_lt_of_le hbl hb.size
      go_wp2_with fail
      refine hcall.out.mono ?_
      rintro e1 w1 ⟨rfl, hb1⟩
      have hb' : Below w.heap.size w w1 := (hb.alloc hb.size _).trans (hb1.mono (by have := hb.size; simp; omega))
      have hc3 : w1.cell? ⟨wr.heap.size, 1, none⟩ = some (.int .i64 e) := by
        rw [hb1.cell (p := ⟨wr.heap.size, 1, none⟩) (by simp)]
        exact cell_new _ _ _ _ _ _ rfl rfl
      clear hc1 hc2 hcall
      cases is
      · have HH := Lib.hid (HT.out rfl)
        go_wp2
        go_ret
        exact ⟨by rw [← HF.out, HH.out]; rfl, hb'⟩
      · have HH := Lib.hid (HM.out rfl)
        go_wp2
        go_roundw
        case rel => exact ⟨k + 1, by omega, by go_num, hb', HA.out (by simp), by rw [← HH.out, HF.out]⟩
        case measure => simp [intOf]; omega
    · go_wp2
      go_ret
      exact ⟨by rw [← HF.out, List.drop_eq_nil_of_le (by omega)]; rfl, hb⟩
end Go.Proofs.YtmkcooamgojbpaaGreatDoor.First

/- config.Symbol: the fault of a symbol. -/
namespace Go.Proofs.YtmkcooamgojbpaaGreatDoor.Symbol
open Go.RowKit Go.Proofs.YtmkcooamgojbpaaGreatDoor.Kit Go.Proofs.YtmkcooamgojbpaaGreatDoor.Fix Go.Proofs.YtmkcooamgojbpaaGreatDoor.All

structure Sym where
  grid : Int
  ref : Int
  static : Int
  dynamic : Int
  window : Int
  move : Int
  limit : Int
  pause : Int
  ext : Int
  maxExt : Int
  collar : Int
  widen : Int
  self : Int
  slots : Int
  levels : Int
  short : Int

def Sym.vals (s : Sym) : List Int := [s.grid, s.ref, s.static, s.dynamic, s.window, s.move, s.limit, s.pause, s.ext, s.maxExt, s.collar, s.widen, s.self, s.slots, s.levels, s.short]
def Sym.cells (s : Sym) : Array Value := #[.int .i64 s.grid, .int .i64 s.ref, .int .i64 s.static, .int .i64 s.dynamic, .int .i64 s.window, .int .i64 s.move, .int .i64 s.limit, .int .i64 s.pause, .int .i64 s.ext, .int .i64 s.maxExt, .int .i64 s.collar, .int .i64 s.widen, .int .i64 s.self, .int .i64 s.slots, .int .i64 s.levels, .int .i64 s.short]

/-- A block whose first cells are a symbol's. -/
def SymBox (w : World) (p : Nat) (s : Sym) : Prop := ∀ (j : Nat) (v : Value), s.cells[j]? = some v → w.cell? ⟨p, j, none⟩ = some v
theorem SymBox.below {w w' : World} {p : Nat} {s : Sym} (h : SymBox w p s) (hp : p < w.heap.size) (hb : Below w.heap.size w w') : SymBox w' p s := by
  intro j v hv
  rw [hb.cell (p := ⟨p, j, none⟩) hp]
  exact h j v hv

def r1 (s : Sym) : Bool := allIn 1 1099511627776 [s.grid, s.ref]
def r2 (s : Sym) : Bool := price s.ref s.grid == 0
def r3 (s : Sym) : Bool := allIn 0 9999 [s.static, s.dynamic, s.move, s.collar, s.widen, s.short]
def r4 (s : Sym) : Bool := allIn 1 1099511627776 [s.window, s.limit, s.pause, s.ext]
def r5 (s : Sym) : Bool := allIn 0 10 [s.maxExt] && allIn 0 3 [s.self]
def r6 (s : Sym) : Bool := allIn 1 500 [s.slots] && allIn 1 200 [s.levels]
def r7 (s : Sym) : Bool := decide (s.dynamic ≤ s.static)

theorem c1 (p : Nat) (s : Sym) (w : World) (h : SymBox w p s) :
    Calls Tryz.prog 67 #[.pointer (some ⟨p, 0, none⟩)] w fun e w' => e = .returned (.bool (r1 s)) ∧ Below w.heap.size w w' := by
  have h0 : w.cell? ⟨p, 0, none⟩ = some (.int .i64 s.grid) := h 0 _ rfl
  have h1 : w.cell? ⟨p, 1, none⟩ = some (.int .i64 s.ref) := h 1 _ rfl
  go_enter Tryz.func67, Tryz.ntmps67
  go_wp2_with fail
  refine (all_any _ _ [s.grid, s.ref] _ _ _ (by simp [maxLen]) (nums_new _ _ _ _ _ rfl rfl)).mono ?_
  rintro e w' ⟨rfl, hb⟩
  go_wp2
  go_ret
  exact ⟨rfl, ((Below.refl _ _).alloc (Nat.le_refl _) _).trans (hb.mono (by simp))⟩

theorem c2 (p : Nat) (s : Sym) (w : World) (h : SymBox w p s) :
    Calls Tryz.prog 68 #[.pointer (some ⟨p, 0, none⟩)] w fun e w' => e = .returned (.bool (r2 s)) ∧ Below w.heap.size w w' := by
  have h0 : w.cell? ⟨p, 0, none⟩ = some (.int .i64 s.grid) := h 0 _ rfl
  have h1 : w.cell? ⟨p, 1, none⟩ = some (.int .i64 s.ref) := h 1 _ rfl
  go_enter Tryz.func68, Tryz.ntmps68
  go_wp2_with fail
  refine (price_any _ _ _).mono ?_
  rintro e w' ⟨rfl, rfl⟩
  go_wp2
  go_ret
  exact ⟨rfl, Below.refl _ _⟩

theorem c3 (p : Nat) (s : Sym) (w : World) (h : SymBox w p s) :
    Calls Tryz.prog 70 #[.pointer (some ⟨p, 0, none⟩)] w fun e w' => e = .returned (.bool (r3 s)) ∧ Below w.heap.size w w' := by
  have h2 : w.cell? ⟨p, 2, none⟩ = some (.int .i64 s.static) := h 2 _ rfl
  have h3 : w.cell? ⟨p, 3, none⟩ = some (.int .i64 s.dynamic) := h 3 _ rfl
  have h5 : w.cell? ⟨p, 5, none⟩ = some (.int .i64 s.move) := h 5 _ rfl
  have h10 : w.cell? ⟨p, 10, none⟩ = some (.int .i64 s.collar) := h 10 _ rfl
  have h11 : w.cell? ⟨p, 11, none⟩ = some (.int .i64 s.widen) := h 11 _ rfl
  have h15 : w.cell? ⟨p, 15, none⟩ = some (.int .i64 s.short) := h 15 _ rfl
  go_enter Tryz.func70, Tryz.ntmps70
  go_wp2_with fail
  refine (all_any _ _ [s.static, s.dynamic, s.move, s.collar, s.widen, s.short] _ _ _ (by simp [maxLen]) (nums_new _ _ _ _ _ rfl rfl)).mono ?_
  rintro e w' ⟨rfl, hb⟩
  go_wp2
  go_ret
  exact ⟨rfl, ((Below.refl _ _).alloc (Nat.le_refl _) _).trans (hb.mono (by simp))⟩

theorem c4 (p : Nat) (s : Sym) (w : World) (h : SymBox w p s) :
    Calls Tryz.prog 71 #[.pointer (some ⟨p, 0, none⟩)] w fun e w' => e = .returned (.bool (r4 s)) ∧ Below w.heap.size w w' := by
  have h4 : w.cell? ⟨p, 4, none⟩ = some (.int .i64 s.window) := h 4 _ rfl
  have h6 : w.cell? ⟨p, 6, none⟩ = some (.int .i64 s.limit) := h 6 _ rfl
  have h7 : w.cell? ⟨p, 7, none⟩ = some (.int .i64 s.pause) := h 7 _ rfl
  have h8 : w.cell? ⟨p, 8, none⟩ = some (.int .i64 s.ext) := h 8 _ rfl
  go_enter Tryz.func71, Tryz.ntmps71
  go_wp2_with fail
  refine (all_any _ _ [s.window, s.limit, s.pause, s.ext] _ _ _ (by simp [maxLen]) (nums_new _ _ _ _ _ rfl rfl)).mono ?_
  rintro e w' ⟨rfl, hb⟩
  go_wp2
  go_ret
  exact ⟨rfl, ((Below.refl _ _).alloc (Nat.le_refl _) _).trans (hb.mono (by simp))⟩

theorem c5 (p : Nat) (s : Sym) (w : World) (h : SymBox w p s) (hp : p < w.heap.size) :
    Calls Tryz.prog 72 #[.pointer (some ⟨p, 0, none⟩)] w fun e w' => e = .returned (.bool (r5 s)) ∧ Below w.heap.size w w' := by
  have h9 : w.cell? ⟨p, 9, none⟩ = some (.int .i64 s.maxExt) := h 9 _ rfl
  have h12 : w.cell? ⟨p, 12, none⟩ = some (.int .i64 s.self) := h 12 _ rfl
  go_enter Tryz.func72, Tryz.ntmps72
  go_wp2_with fail
  refine (all_any _ _ [s.maxExt] _ _ _ (by simp [maxLen]) (nums_new _ _ _ _ _ rfl rfl)).mono ?_
  rintro e w' ⟨rfl, hb⟩
  have hb' : Below w.heap.size w w' := ((Below.refl _ _).alloc (Nat.le_refl _) _).trans (hb.mono (by simp))
  rw [← hb'.cell (p := ⟨p, 12, none⟩) hp] at h12
  cases hr : allIn 0 10 [s.maxExt]
  · go_wp2
    go_ret
    exact ⟨by simp [r5, hr], hb'⟩
  · have HR := Lib.hid hr
    clear hr
    go_wp2_with fail
    refine (all_any _ _ [s.self] _ _ _ (by simp [maxLen]) (nums_new _ _ _ _ _ rfl rfl)).mono ?_
    rintro e w2 ⟨rfl, hb2⟩
    go_wp2
    go_ret
    exact ⟨by simp [r5, HR.out], (hb'.alloc hb'.size _).trans (hb2.mono (by have := hb'.size; simp; omega))⟩

theorem c6 (p : Nat) (s : Sym) (w : World) (h : SymBox w p s) (hp : p < w.heap.size) :
    Calls Tryz.prog 73 #[.pointer (some ⟨p, 0, none⟩)] w fun e w' => e = .returned (.bool (r6 s)) ∧ Below w.heap.size w w' := by
  have h13 : w.cell? ⟨p, 13, none⟩ = some (.int .i64 s.slots) := h 13 _ rfl
  have h14 : w.cell? ⟨p, 14, none⟩ = some (.int .i64 s.levels) := h 14 _ rfl
  go_enter Tryz.func73, Tryz.ntmps73
  go_wp2_with fail
  refine (all_any _ _ [s.slots] _ _ _ (by simp [maxLen]) (nums_new _ _ _ _ _ rfl rfl)).mono ?_
  rintro e w' ⟨rfl, hb⟩
  have hb' : Below w.heap.size w w' := ((Below.refl _ _).alloc (Nat.le_refl _) _).trans (hb.mono (by simp))
  rw [← hb'.cell (p := ⟨p, 14, none⟩) hp] at h14
  cases hr : allIn 1 500 [s.slots]
  · go_wp2
    go_ret
    exact ⟨by simp [r6, hr], hb'⟩
  · have HR := Lib.hid hr
    clear hr
    go_wp2_with fail
    refine (all_any _ _ [s.levels] _ _ _ (by simp [maxLen]) (nums_new _ _ _ _ _ rfl rfl)).mono ?_
    rintro e w2 ⟨rfl, hb2⟩
    go_wp2
    go_ret
    exact ⟨by simp [r6, HR.out], (hb'.alloc hb'.size _).trans (hb2.mono (by have := hb'.size; simp; omega))⟩

theorem c7 (p : Nat) (s : Sym) (w : World) (h : SymBox w p s) :
    Calls Tryz.prog 74 #[.pointer (some ⟨p, 0, none⟩)] w fun e w' => e = .returned (.bool (r7 s)) ∧ Below w.heap.size w w' := by
  have h2 : w.cell? ⟨p, 2, none⟩ = some (.int .i64 s.static) := h 2 _ rfl
  have h3 : w.cell? ⟨p, 3, none⟩ = some (.int .i64 s.dynamic) := h 3 _ rfl
  go_enter Tryz.func74, Tryz.ntmps74
  go_wp2
  go_ret
  exact ⟨rfl, Below.refl _ _⟩
end Go.Proofs.YtmkcooamgojbpaaGreatDoor.Symbol

/- config.Symbol: the fault of a symbol, from its seven rules. -/
namespace Go.Proofs.YtmkcooamgojbpaaGreatDoor.Symbol
open Go.RowKit Go.Proofs.YtmkcooamgojbpaaGreatDoor.Kit

/-- The rules of a symbol, by the fault each has. -/
def symFault (s : Sym) : Int :=
  if !r1 s then 9 else if !r2 s then 8 else if !r3 s then 9 else if !r4 s then 9 else if !r5 s then 9 else if !r6 s then 9 else if !r7 s then 11 else 0

def rules (p : Nat) (s : Sym) : List First.R :=
  [⟨67, #[.pointer (some ⟨p, 0, none⟩)], 9, r1 s⟩, ⟨68, #[.pointer (some ⟨p, 0, none⟩)], 8, r2 s⟩,
   ⟨70, #[.pointer (some ⟨p, 0, none⟩)], 9, r3 s⟩, ⟨71, #[.pointer (some ⟨p, 0, none⟩)], 9, r4 s⟩,
   ⟨72, #[.pointer (some ⟨p, 0, none⟩)], 9, r5 s⟩, ⟨73, #[.pointer (some ⟨p, 0, none⟩)], 9, r6 s⟩,
   ⟨74, #[.pointer (some ⟨p, 0, none⟩)], 11, r7 s⟩]

theorem fault_rules (p : Nat) (s : Sym) : First.fault (rules p s) = symFault s := by
  unfold symFault rules
  simp only [First.fault]
  cases r1 s <;> cases r2 s <;> cases r3 s <;> cases r4 s <;> cases r5 s <;> cases r6 s <;> cases r7 s <;> rfl

theorem lt7 {i : Nat} (h : i < 7) : i = 0 ∨ i = 1 ∨ i = 2 ∨ i = 3 ∨ i = 4 ∨ i = 5 ∨ i = 6 := by omega

theorem box_new (w : World) (n : Nat) (s : Sym) (hn : w.heap.size = n) : SymBox (w.alloc (.cells s.cells 46)) n s :=
  fun _ _ hv => cell_new _ _ _ _ _ _ hn hv

theorem in1 (c : Array Value) (w : World) : (callFunc 67 c).run Tryz.prog w = .ok (.enter 67 c) w := callFunc_enter Tryz.func67 (by kernel_rfl) (by kernel_rfl) c w
theorem in2 (c : Array Value) (w : World) : (callFunc 68 c).run Tryz.prog w = .ok (.enter 68 c) w := callFunc_enter Tryz.func68 (by kernel_rfl) (by kernel_rfl) c w
theorem in3 (c : Array Value) (w : World) : (callFunc 70 c).run Tryz.prog w = .ok (.enter 70 c) w := callFunc_enter Tryz.func70 (by kernel_rfl) (by kernel_rfl) c w
theorem in4 (c : Array Value) (w : World) : (callFunc 71 c).run Tryz.prog w = .ok (.enter 71 c) w := callFunc_enter Tryz.func71 (by kernel_rfl) (by kernel_rfl) c w
theorem in5 (c : Array Value) (w : World) : (callFunc 72 c).run Tryz.prog w = .ok (.enter 72 c) w := callFunc_enter Tryz.func72 (by kernel_rfl) (by kernel_rfl) c w
theorem in6 (c : Array Value) (w : World) : (callFunc 73 c).run Tryz.prog w = .ok (.enter 73 c) w := callFunc_enter Tryz.func73 (by kernel_rfl) (by kernel_rfl) c w
theorem in7 (c : Array Value) (w : World) : (callFunc 74 c).run Tryz.prog w = .ok (.enter 74 c) w := callFunc_enter Tryz.func74 (by kernel_rfl) (by kernel_rfl) c w

set_option maxHeartbeats 1000000 in
theorem symbol_any (s : Sym) (w : World) :
    Calls Tryz.prog 30 #[.agg s.cells] w fun e w' => e = .returned (.int .i64 (symFault s)) ∧ Below w.heap.size w w' := by
  have HB := Lib.hid (box_new w _ s rfl)
  unfold Sym.cells at *
  go_enter Tryz.func30, Tryz.ntmps30
  go_wp2_with fail
  have hb0 : Below w.heap.size w _ := ((Below.refl w.heap.size w).alloc (Nat.le_refl _) (.cells #[.int .i64 s.grid, .int .i64 s.ref, .int .i64 s.static, .int .i64 s.dynamic, .int .i64 s.window, .int .i64 s.move, .int .i64 s.limit, .int .i64 s.pause, .int .i64 s.ext, .int .i64 s.maxExt, .int .i64 s.collar, .int .i64 s.widen, .int .i64 s.self, .int .i64 s.slots, .int .i64 s.levels, .int .i64 s.short] 46))
  refine (First.first_any (w.heap.size + 1) 7 (rules w.heap.size s) _ (by simp [rules, maxLen]) (by simp) ?_ ?_ ?_).mono ?_
  · intro i hi
    rcases lt7 hi with rfl | rfl | rfl | rfl | rfl | rfl | rfl <;> exact ⟨cell_new _ _ _ _ _ _ (by simp) rfl, cell_new _ _ _ _ _ _ (by simp) rfl⟩
  · intro i hi
    rcases lt7 hi with rfl | rfl | rfl | rfl | rfl | rfl | rfl
    · exact in1 _
    · exact in2 _
    · exact in3 _
    · exact in4 _
    · exact in5 _
    · exact in6 _
    · exact in7 _
  · intro i hi _ w' hb
    have hsb : SymBox w' w.heap.size s := by
      have h1 := HB.out.below (by simp) (w' := w') ?_
      · exact h1
      · refine Below.trans ?_ (hb.mono (by simp))
        exact (Below.refl _ _).alloc (by simp) _
    have hp : w.heap.size < w'.heap.size := by have := hb.size; simp at this; omega
    rcases lt7 hi with rfl | rfl | rfl | rfl | rfl | rfl | rfl
    · exact c1 _ _ _ hsb
    · exact c2 _ _ _ hsb
    · exact c3 _ _ _ hsb
    · exact c4 _ _ _ hsb
    · exact c5 _ _ _ hsb hp
    · exact c6 _ _ _ hsb hp
    · exact c7 _ _ _ hsb
  · rintro e w' ⟨rfl, hb⟩
    rw [fault_rules]
    go_wp2
    go_ret
    exact ⟨rfl, (hb0.alloc hb0.size _).trans (hb.mono (by simp; omega))⟩
end Go.Proofs.YtmkcooamgojbpaaGreatDoor.Symbol

/- damperref07.Symbol: the document's fault of a symbol; and that it is the program's. -/
namespace Go.Proofs.YtmkcooamgojbpaaGreatDoor.RefSymbol
set_option linter.unusedVariables false
open Go.RowKit Go.Proofs.YtmkcooamgojbpaaGreatDoor.Kit Go.Proofs.YtmkcooamgojbpaaGreatDoor.Symbol Go.Proofs.YtmkcooamgojbpaaGreatDoor.Fix

def inR (lo hi n : Int) : Bool := decide (lo ≤ n) && decide (n ≤ hi)

theorem in_any (n lo hi : Int) (w : World) : Calls Tryz.prog 62 #[.int .i64 n, .int .i64 lo, .int .i64 hi] w fun e w' => e = .returned (.bool (inR lo hi n)) ∧ w = w' := by
  by_cases h1 : lo ≤ n
  · by_cases h2 : n ≤ hi
    · have HS := Lib.hid (show inR lo hi n = true by simp [inR, h1, h2])
      go_enter Tryz.func62, Tryz.ntmps62
      go_wp2
      go_ret
      exact ⟨ret_bool HS.out.symm, rfl⟩
    · have HS := Lib.hid (show inR lo hi n = false by simp [inR, h2])
      go_enter Tryz.func62, Tryz.ntmps62
      go_wp2
      go_ret
      exact ⟨ret_bool HS.out.symm, rfl⟩
  · have HS := Lib.hid (show inR lo hi n = false by simp [inR, h1])
    go_enter Tryz.func62, Tryz.ntmps62
    go_wp2
    go_ret
    exact ⟨ret_bool HS.out.symm, rfl⟩

theorem part_any (n : Int) (w : World) : Calls Tryz.prog 92 #[.int .i64 n] w fun e w' => e = .returned (.bool (inR 0 9999 n)) ∧ w = w' := by
  go_enter Tryz.func92, Tryz.ntmps92
  go_wp2_with (go_at_call 62; refine (in_any _ _ _ _).mono ?_; rintro e w' ⟨rfl, rfl⟩)
  go_ret
  exact ⟨rfl, rfl⟩

theorem ticks_any (n : Int) (w : World) : Calls Tryz.prog 63 #[.int .i64 n] w fun e w' => e = .returned (.bool (inR 1 1099511627776 n)) ∧ w = w' := by
  go_enter Tryz.func63, Tryz.ntmps63
  go_wp2_with (go_at_call 62; refine (in_any _ _ _ _).mono ?_; rintro e w' ⟨rfl, rfl⟩)
  go_ret
  exact ⟨rfl, rfl⟩

def refSym (s : Sym) : Int :=
  if !(inR 1 1099511627776 s.grid && inR 1 1099511627776 s.ref) then 9 else
  if !((s.ref % s.grid == 0)) then 8 else
  if !(inR 0 9999 s.static && inR 0 9999 s.dynamic && inR 0 9999 s.move && inR 0 9999 s.collar && inR 0 9999 s.widen && inR 0 9999 s.short) then 9 else
  if !(inR 1 1099511627776 s.window && inR 1 1099511627776 s.limit && inR 1 1099511627776 s.pause && inR 1 1099511627776 s.ext && inR 0 10 s.maxExt && inR 0 3 s.self && inR 1 500 s.slots && inR 1 200 s.levels) then 9 else
  if !(decide (s.dynamic ≤ s.static)) then 11 else
  0

set_option maxRecDepth 100000 in
set_option maxHeartbeats 4000000 in
theorem symbol_ref (s : Sym) (w : World) :
    Calls Tryz.prog 61 #[.agg s.cells] w fun e w' => e = .returned (.int .i64 (refSym s)) ∧ w.alloc (.cells s.cells 46) = w' := by
  unfold Sym.cells
  go_enter Tryz.func61, Tryz.ntmps61
  go_wp2_with fail
  refine (in_any _ _ _ _).mono ?_
  rintro e w' ⟨rfl, rfl⟩
  cases hr0 : inR 1 1099511627776 s.grid with
  | false =>
    have HS := Lib.hid (show refSym s = 9 by skip; simp [refSym, *])
    go_wp2
    go_ret
    exact ⟨ret_int HS.out.symm, rfl⟩
  | true =>
  have H0 := Lib.hid hr0
  clear hr0
  go_wp2_with fail
  refine (in_any _ _ _ _).mono ?_
  rintro e w' ⟨rfl, rfl⟩
  cases hr1 : inR 1 1099511627776 s.ref with
  | false =>
    have HS := Lib.hid (show refSym s = 9 by have a0 := H0.out; simp [refSym, *])
    go_wp2
    go_ret
    exact ⟨ret_int HS.out.symm, rfl⟩
  | true =>
  have H1 := Lib.hid hr1
  clear hr1
  have b1 : 1 ≤ s.grid ∧ s.grid ≤ 1099511627776 := by have := H0.out; simpa [inR] using this
  have b2 : 1 ≤ s.ref ∧ s.ref ≤ 1099511627776 := by have := H1.out; simpa [inR] using this
  obtain ⟨b11, b12⟩ := b1
  obtain ⟨b21, b22⟩ := b2
  have b3 : 0 ≤ s.ref := by omega
  cases hm : (s.ref % s.grid != 0) with
  | true =>
    have HS := Lib.hid (show refSym s = 8 by have a0 := H0.out; have a1 := H1.out; have am : ¬ s.ref % s.grid = 0 := by simpa using hm
                                             simp [refSym, a0, a1, am])
    go_wp2
    go_ret
    exact ⟨ret_int HS.out.symm, rfl⟩
  | false =>
  have HM := Lib.hid (show s.ref % s.grid = 0 by simpa using hm)
  go_wp2_with fail
  refine (part_any _ _).mono ?_
  rintro e w' ⟨rfl, rfl⟩
  cases hr2 : inR 0 9999 s.static with
  | false =>
    have HS := Lib.hid (show refSym s = 9 by have a0 := H0.out; have a1 := H1.out; have a2 := HM.out; simp [refSym, *])
    go_wp2
    go_ret
    exact ⟨ret_int HS.out.symm, rfl⟩
  | true =>
  have H2 := Lib.hid hr2
  clear hr2
  go_wp2_with fail
  refine (part_any _ _).mono ?_
  rintro e w' ⟨rfl, rfl⟩
  cases hr3 : inR 0 9999 s.dynamic with
  | false =>
    have HS := Lib.hid (show refSym s = 9 by have a0 := H0.out; have a1 := H1.out; have a2 := HM.out; have a3 := H2.out; simp [refSym, *])
    go_wp2
    go_ret
    exact ⟨ret_int HS.out.symm, rfl⟩
  | true =>
  have H3 := Lib.hid hr3
  clear hr3
  go_wp2_with fail
  refine (part_any _ _).mono ?_
  rintro e w' ⟨rfl, rfl⟩
  cases hr4 : inR 0 9999 s.move with
  | false =>
    have HS := Lib.hid (show refSym s = 9 by have a0 := H0.out; have a1 := H1.out; have a2 := HM.out; have a3 := H2.out; have a4 := H3.out; simp [refSym, *])
    go_wp2
    go_ret
    exact ⟨ret_int HS.out.symm, rfl⟩
  | true =>
  have H4 := Lib.hid hr4
  clear hr4
  go_wp2_with fail
  refine (part_any _ _).mono ?_
  rintro e w' ⟨rfl, rfl⟩
  cases hr5 : inR 0 9999 s.collar with
  | false =>
    have HS := Lib.hid (show refSym s = 9 by have a0 := H0.out; have a1 := H1.out; have a2 := HM.out; have a3 := H2.out; have a4 := H3.out; have a5 := H4.out; simp [refSym, *])
    go_wp2
    go_ret
    exact ⟨ret_int HS.out.symm, rfl⟩
  | true =>
  have H5 := Lib.hid hr5
  clear hr5
  go_wp2_with fail
  refine (part_any _ _).mono ?_
  rintro e w' ⟨rfl, rfl⟩
  cases hr6 : inR 0 9999 s.widen with
  | false =>
    have HS := Lib.hid (show refSym s = 9 by have a0 := H0.out; have a1 := H1.out; have a2 := HM.out; have a3 := H2.out; have a4 := H3.out; have a5 := H4.out; have a6 := H5.out; simp [refSym, *])
    go_wp2
    go_ret
    exact ⟨ret_int HS.out.symm, rfl⟩
  | true =>
  have H6 := Lib.hid hr6
  clear hr6
  go_wp2_with fail
  refine (part_any _ _).mono ?_
  rintro e w' ⟨rfl, rfl⟩
  cases hr7 : inR 0 9999 s.short with
  | false =>
    have HS := Lib.hid (show refSym s = 9 by have a0 := H0.out; have a1 := H1.out; have a2 := HM.out; have a3 := H2.out; have a4 := H3.out; have a5 := H4.out; have a6 := H5.out; have a7 := H6.out; simp [refSym, *])
    go_wp2
    go_ret
    exact ⟨ret_int HS.out.symm, rfl⟩
  | true =>
  have H7 := Lib.hid hr7
  clear hr7
  go_wp2_with fail
  refine (ticks_any _ _).mono ?_
  rintro e w' ⟨rfl, rfl⟩
  cases hr8 : inR 1 1099511627776 s.window with
  | false =>
    have HS := Lib.hid (show refSym s = 9 by have a0 := H0.out; have a1 := H1.out; have a2 := HM.out; have a3 := H2.out; have a4 := H3.out; have a5 := H4.out; have a6 := H5.out; have a7 := H6.out; have a8 := H7.out; simp [refSym, *])
    go_wp2
    go_ret
    exact ⟨ret_int HS.out.symm, rfl⟩
  | true =>
  have H8 := Lib.hid hr8
  clear hr8
  go_wp2_with fail
  refine (ticks_any _ _).mono ?_
  rintro e w' ⟨rfl, rfl⟩
  cases hr9 : inR 1 1099511627776 s.limit with
  | false =>
    have HS := Lib.hid (show refSym s = 9 by have a0 := H0.out; have a1 := H1.out; have a2 := HM.out; have a3 := H2.out; have a4 := H3.out; have a5 := H4.out; have a6 := H5.out; have a7 := H6.out; have a8 := H7.out; have a9 := H8.out; simp [refSym, *])
    go_wp2
    go_ret
    exact ⟨ret_int HS.out.symm, rfl⟩
  | true =>
  have H9 := Lib.hid hr9
  clear hr9
  go_wp2_with fail
  refine (ticks_any _ _).mono ?_
  rintro e w' ⟨rfl, rfl⟩
  cases hr10 : inR 1 1099511627776 s.pause with
  | false =>
    have HS := Lib.hid (show refSym s = 9 by have a0 := H0.out; have a1 := H1.out; have a2 := HM.out; have a3 := H2.out; have a4 := H3.out; have a5 := H4.out; have a6 := H5.out; have a7 := H6.out; have a8 := H7.out; have a9 := H8.out; have a10 := H9.out; simp [refSym, *])
    go_wp2
    go_ret
    exact ⟨ret_int HS.out.symm, rfl⟩
  | true =>
  have H10 := Lib.hid hr10
  clear hr10
  go_wp2_with fail
  refine (ticks_any _ _).mono ?_
  rintro e w' ⟨rfl, rfl⟩
  cases hr11 : inR 1 1099511627776 s.ext with
  | false =>
    have HS := Lib.hid (show refSym s = 9 by have a0 := H0.out; have a1 := H1.out; have a2 := HM.out; have a3 := H2.out; have a4 := H3.out; have a5 := H4.out; have a6 := H5.out; have a7 := H6.out; have a8 := H7.out; have a9 := H8.out; have a10 := H9.out; have a11 := H10.out; simp [refSym, *])
    go_wp2
    go_ret
    exact ⟨ret_int HS.out.symm, rfl⟩
  | true =>
  have H11 := Lib.hid hr11
  clear hr11
  go_wp2_with fail
  refine (in_any _ _ _ _).mono ?_
  rintro e w' ⟨rfl, rfl⟩
  cases hr12 : inR 0 10 s.maxExt with
  | false =>
    have HS := Lib.hid (show refSym s = 9 by have a0 := H0.out; have a1 := H1.out; have a2 := HM.out; have a3 := H2.out; have a4 := H3.out; have a5 := H4.out; have a6 := H5.out; have a7 := H6.out; have a8 := H7.out; have a9 := H8.out; have a10 := H9.out; have a11 := H10.out; have a12 := H11.out; simp [refSym, *])
    go_wp2
    go_ret
    exact ⟨ret_int HS.out.symm, rfl⟩
  | true =>
  have H12 := Lib.hid hr12
  clear hr12
  go_wp2_with fail
  refine (in_any _ _ _ _).mono ?_
  rintro e w' ⟨rfl, rfl⟩
  cases hr13 : inR 0 3 s.self with
  | false =>
    have HS := Lib.hid (show refSym s = 9 by have a0 := H0.out; have a1 := H1.out; have a2 := HM.out; have a3 := H2.out; have a4 := H3.out; have a5 := H4.out; have a6 := H5.out; have a7 := H6.out; have a8 := H7.out; have a9 := H8.out; have a10 := H9.out; have a11 := H10.out; have a12 := H11.out; have a13 := H12.out; simp [refSym, *])
    go_wp2
    go_ret
    exact ⟨ret_int HS.out.symm, rfl⟩
  | true =>
  have H13 := Lib.hid hr13
  clear hr13
  go_wp2_with fail
  refine (in_any _ _ _ _).mono ?_
  rintro e w' ⟨rfl, rfl⟩
  cases hr14 : inR 1 500 s.slots with
  | false =>
    have HS := Lib.hid (show refSym s = 9 by have a0 := H0.out; have a1 := H1.out; have a2 := HM.out; have a3 := H2.out; have a4 := H3.out; have a5 := H4.out; have a6 := H5.out; have a7 := H6.out; have a8 := H7.out; have a9 := H8.out; have a10 := H9.out; have a11 := H10.out; have a12 := H11.out; have a13 := H12.out; have a14 := H13.out; simp [refSym, *])
    go_wp2
    go_ret
    exact ⟨ret_int HS.out.symm, rfl⟩
  | true =>
  have H14 := Lib.hid hr14
  clear hr14
  go_wp2_with fail
  refine (in_any _ _ _ _).mono ?_
  rintro e w' ⟨rfl, rfl⟩
  cases hr15 : inR 1 200 s.levels with
  | false =>
    have HS := Lib.hid (show refSym s = 9 by have a0 := H0.out; have a1 := H1.out; have a2 := HM.out; have a3 := H2.out; have a4 := H3.out; have a5 := H4.out; have a6 := H5.out; have a7 := H6.out; have a8 := H7.out; have a9 := H8.out; have a10 := H9.out; have a11 := H10.out; have a12 := H11.out; have a13 := H12.out; have a14 := H13.out; have a15 := H14.out; simp [refSym, *])
    go_wp2
    go_ret
    exact ⟨ret_int HS.out.symm, rfl⟩
  | true =>
  have H15 := Lib.hid hr15
  clear hr15
  by_cases hd : s.dynamic ≤ s.static
  · have HS := Lib.hid (show refSym s = 0 by have a0 := H0.out; have a1 := H1.out; have a2 := HM.out; have a3 := H2.out; have a4 := H3.out; have a5 := H4.out; have a6 := H5.out; have a7 := H6.out; have a8 := H7.out; have a9 := H8.out; have a10 := H9.out; have a11 := H10.out; have a12 := H11.out; have a13 := H12.out; have a14 := H13.out; have a15 := H14.out; have a16 := H15.out; simp [refSym, *])
    go_wp2
    go_ret
    exact ⟨ret_int HS.out.symm, rfl⟩
  · have HS := Lib.hid (show refSym s = 11 by have a0 := H0.out; have a1 := H1.out; have a2 := HM.out; have a3 := H2.out; have a4 := H3.out; have a5 := H4.out; have a6 := H5.out; have a7 := H6.out; have a8 := H7.out; have a9 := H8.out; have a10 := H9.out; have a11 := H10.out; have a12 := H11.out; have a13 := H12.out; have a14 := H13.out; have a15 := H14.out; have a16 := H15.out; simp [refSym, *])
    have hd' : s.static < s.dynamic := by omega
    go_wp2
    go_ret
    exact ⟨ret_int HS.out.symm, rfl⟩
end Go.Proofs.YtmkcooamgojbpaaGreatDoor.RefSymbol

/- config.table: the fault of a session's table, and where. -/
namespace Go.Proofs.YtmkcooamgojbpaaGreatDoor.Table
open Go.RowKit Go.Proofs.YtmkcooamgojbpaaGreatDoor.Kit Go.Proofs.YtmkcooamgojbpaaGreatDoor.All

/-- A row of pairs of numbers in memory. -/
def TabRow (w : World) (a : Option Addr) (l : List (Int × Int)) : Prop :=
  ∀ i, (h : i < l.length) → ∃ b off, a = some ⟨b, off, none⟩ ∧ b < w.heap.size ∧ w.cell? ⟨b, off + i * 2, none⟩ = some (.int .i64 l[i].1) ∧ w.cell? ⟨b, off + i * 2 + 1, none⟩ = some (.int .i64 l[i].2)
theorem TabRow.below {w w' : World} {a : Option Addr} {l : List (Int × Int)} (h : TabRow w a l) (hb : Below w.heap.size w w') : TabRow w' a l := by
  intro i hi
  obtain ⟨b, off, ha, hl, hc1, hc2⟩ := h i hi
  exact ⟨b, off, ha, Nat.lt_of_lt_of_le hl hb.size, by rw [hb.cell (p := ⟨b, _, none⟩) hl]; exact hc1, by rw [hb.cell (p := ⟨b, _, none⟩) hl]; exact hc2⟩

def late (last t : Int) : Bool := decide (t ≤ last) || decide (1125899906842624 < t)

def tabFault : List (Int × Int) → Int → Nat → Int × Int
  | [], _, _ => (0, 0)
  | (t, p) :: l, last, i => if late last t then (9, (i : Int)) else if allIn 0 2 [p] then tabFault l t (i + 1) else (10, (i : Int))

def tableF (l : List (Int × Int)) : Int × Int := if allIn 1 20 [(l.length : Int)] then tabFault l (-1) 0 else (9, 0)

theorem tab_late (l : List (Int × Int)) (k : Nat) (last : Int) (h : k < l.length) (h1 : late last l[k].1 = true) : tabFault (l.drop k) last k = (9, (k : Int)) := by
  rw [List.drop_eq_getElem_cons h]; simp [tabFault, h1]
theorem tab_phase (l : List (Int × Int)) (k : Nat) (last : Int) (h : k < l.length) (h1 : late last l[k].1 = false) (h2 : allIn 0 2 [l[k].2] = false) : tabFault (l.drop k) last k = (10, (k : Int)) := by
  rw [List.drop_eq_getElem_cons h]; simp [tabFault, h1, h2]
theorem tab_on (l : List (Int × Int)) (k : Nat) (last : Int) (h : k < l.length) (h1 : late last l[k].1 = false) (h2 : allIn 0 2 [l[k].2] = true) : tabFault (l.drop k) last k = tabFault (l.drop (k + 1)) l[k].1 (k + 1) := by
  rw [List.drop_eq_getElem_cons h]; simp [tabFault, h1, h2]

theorem ret_two {a b : Int} {x : Int × Int} (h : x = (a, b)) : Ending.returned (.tuple #[.int .i64 a, .int .i64 b]) = .returned (.tuple #[.int .i64 x.1, .int .i64 x.2]) := by rw [h]

set_option maxHeartbeats 2000000 in
theorem table_any (a : Option Addr) (cap : Nat) (l : List (Int × Int)) (w : World) (hm : l.length ≤ maxLen) (hr : TabRow w a l) :
    Calls Tryz.prog 31 #[.slice a l.length cap] w fun e w' => e = .returned (.tuple #[.int .i64 (tableF l).1, .int .i64 (tableF l).2]) ∧ Below w.heap.size w w' := by
  unfold maxLen at hm
  go_enter Tryz.func31, Tryz.ntmps31
  go_wp2_with fail
  refine (all_any _ _ [(l.length : Int)] _ _ _ (by simp [maxLen]) (nums_new _ _ _ _ _ rfl rfl)).mono ?_
  rintro e w0 ⟨rfl, hb0⟩
  have hb : Below w.heap.size w w0 := ((Below.refl _ _).alloc (Nat.le_refl _) _).trans (hb0.mono (by simp))
  clear hb0
  cases hl : allIn 1 20 [(l.length : Int)] with
  | false =>
    have HS := Lib.hid (show tableF l = (9, 0) by simp [tableF, hl])
    go_wp2
    go_ret2
    exact ⟨ret_two HS.out, hb⟩
  | true =>
  have HL := Lib.hid (show tableF l = tabFault l (-1) 0 by simp [tableF, hl])
  clear hl
  go_wp2_with fail
  go_loopw [4, 14] (fun la i wr => ∃ (k : Nat) (last : Int), k ≤ l.length ∧ i = .int .i64 k ∧ la = .int .i64 last ∧ Below w.heap.size w wr ∧ tabFault (l.drop k) last k = tabFault l (-1) 0) (fun _ i _ => l.length - (intOf i).toNat)
  case atStart => exact ⟨0, -1, by omega, rfl, rfl, hb, rfl⟩
  case round =>
    clear hb
    obtain ⟨k, last, hk, rfl, rfl, hb, hf⟩ := hrel
    have HF := Lib.hid hf
    clear hf
    by_cases hlt : k < l.length
    · obtain ⟨b, off, rfl, hbl, hc1, hc2⟩ := hr k hlt
      rw [← hb.cell (p := ⟨b, _, none⟩) hbl] at hc1 hc2
      have HA := Lib.hid (tab_late l k last hlt)
      have HB := Lib.hid (tab_phase l k last hlt)
      have HC := Lib.hid (tab_on l k last hlt)
      clear hr
      generalize l[k] = r at hc1 hc2 HA HB HC
      obtain ⟨t, p⟩ := r
      dsimp only at hc1 hc2
      by_cases h1 : t ≤ last
      · have HH := Lib.hid (HA.out (by simp [late, h1]))
        go_wp2
        go_ret2
        exact ⟨ret_two (by rw [HL.out, ← HF.out, HH.out]), hb.alloc hb.size _⟩
      · by_cases h2 : 1125899906842624 < t
        · have HH := Lib.hid (HA.out (by simp [late, h2]))
          go_wp2
          go_ret2
          exact ⟨ret_two (by rw [HL.out, ← HF.out, HH.out]), hb.alloc hb.size _⟩
        · have hla : late last t = false := by simp [late, h1, h2]
          have HB' := Lib.hid (HB.out hla)
          have HC' := Lib.hid (HC.out hla)
          clear HA HB HC hla
          have h1' : last < t := by omega
          have h2' : t ≤ 1125899906842624 := by omega
          clear h1 h2
          go_wp2_with fail
          refine (all_any _ _ [p] _ _ _ (by simp [maxLen]) (nums_new _ _ _ _ _ (by simp) rfl)).mono ?_
          rintro e w1 ⟨rfl, hb1⟩
          have hb' : Below w.heap.size w w1 := ((hb.alloc hb.size _).alloc (by have := hb.size; simp; omega) _).trans (hb1.mono (by have := hb.size; simp; omega))
          have hc3 : w1.cell? ⟨wr.heap.size, 0, none⟩ = some (.int .i64 t) := by
            rw [hb1.cell (p := ⟨wr.heap.size, 0, none⟩) (by simp; omega), cell_old _ _ _ (by simp)]
            exact cell_new _ _ _ _ _ _ rfl rfl
          clear hc1 hc2 hb1
          cases hp : allIn 0 2 [p] with
          | false =>
            have HH := Lib.hid (HB'.out hp)
            go_wp2
            go_ret2
            exact ⟨ret_two (by rw [HL.out, ← HF.out, HH.out]), hb'⟩
          | true =>
            have HH := Lib.hid (HC'.out hp)
            clear hp
            go_wp2
            go_roundw
            case rel => exact ⟨k + 1, t, by omega, by go_num, rfl, hb', by rw [← HH.out, HF.out]⟩
            case measure => simp [intOf]; omega
    · have hk' : k = l.length := by omega
      have HH : Hid (tabFault (l.drop k) last k = (0, 0)) := by rw [List.drop_eq_nil_of_le (by omega)]; rfl
      clear hr
      go_wp2
      go_ret2
      exact ⟨ret_two (by rw [HL.out, ← HF.out, HH.out]), hb⟩
end Go.Proofs.YtmkcooamgojbpaaGreatDoor.Table

/- config.Check: the fault of a configuration, and where. -/
namespace Go.Proofs.YtmkcooamgojbpaaGreatDoor.Check
open Go.RowKit Go.Proofs.YtmkcooamgojbpaaGreatDoor.Kit Go.Proofs.YtmkcooamgojbpaaGreatDoor.All Go.Proofs.YtmkcooamgojbpaaGreatDoor.Symbol Go.Proofs.YtmkcooamgojbpaaGreatDoor.Table

structure Cfg where
  syms : List Sym
  tab : List (Int × Int)
  index : Int
  f0 : Int
  f1 : Int
  f2 : Int
  h0 : Int
  h1 : Int

/-- A row of symbols in memory. -/
def SymRow (w : World) (a : Option Addr) (l : List Sym) : Prop :=
  ∀ i, (h : i < l.length) → ∃ b off, a = some ⟨b, off, none⟩ ∧ b < w.heap.size ∧ ∀ (j : Nat) (v : Value), l[i].cells[j]? = some v → w.cell? ⟨b, off + i * 16 + j, none⟩ = some v
theorem SymRow.below {w w' : World} {a : Option Addr} {l : List Sym} (h : SymRow w a l) (hb : Below w.heap.size w w') : SymRow w' a l := by
  intro i hi
  obtain ⟨b, off, ha, hl, hc⟩ := h i hi
  exact ⟨b, off, ha, Nat.lt_of_lt_of_le hl hb.size, fun j v hv => by rw [hb.cell (p := ⟨b, _, none⟩) hl]; exact hc j v hv⟩

/-- A configuration as a value: its cells, with two slices. -/
def Cfg.cells (c : Cfg) (sa ta : Option Addr) (sc tc : Nat) : Array Value :=
  #[.slice sa c.syms.length sc, .slice ta c.tab.length tc, .int .i64 c.index, .int .i64 c.f0, .int .i64 c.f1, .int .i64 c.f2, .int .i64 c.h0, .int .i64 c.h1]

/-- A configuration as it lies in memory. -/
structure Cfg.In (c : Cfg) (w : World) (sa ta : Option Addr) : Prop where
  syms : SymRow w sa c.syms
  tab : TabRow w ta c.tab
  ns : c.syms.length ≤ maxLen
  nt : c.tab.length ≤ maxLen
theorem Cfg.In.below {c : Cfg} {w w' : World} {sa ta : Option Addr} (h : c.In w sa ta) (hb : Below w.heap.size w w') : c.In w' sa ta :=
  ⟨h.syms.below hb, h.tab.below hb, h.ns, h.nt⟩

/-- The fault of the first symbol that has one, and its place. -/
def symsF : List Sym → Nat → Int × Int
  | [], _ => (0, 0)
  | s :: l, i => if symFault s = 0 then symsF l (i + 1) else (symFault s, (i : Int))

def k1 (c : Cfg) : Bool := allIn 1 1099511627776 [c.index]
def k2 (c : Cfg) : Bool := allIn 1 9999 [c.f0, c.f1, c.f2] && decide (c.f0 < c.f1) && decide (c.f1 < c.f2)
def k3 (c : Cfg) : Bool := allIn 1 1099511627776 [c.h0, c.h1]

def restF (c : Cfg) : Int := if k1 c && k2 c && k3 c then 0 else 9
def checkF (c : Cfg) : Int × Int :=
  if allIn 1 8 [(c.syms.length : Int)] then
    (if (symsF c.syms 0).1 = 0 then
      (if (tableF c.tab).1 = 0 then (restF c, 0) else tableF c.tab)
    else symsF c.syms 0)
  else (9, 0)

theorem syms_hit (l : List Sym) (k : Nat) (h : k < l.length) (hp : ¬ symFault l[k] = 0) : symsF (l.drop k) k = (symFault l[k], (k : Int)) := by
  rw [List.drop_eq_getElem_cons h]; simp [symsF, hp]
theorem syms_miss (l : List Sym) (k : Nat) (h : k < l.length) (hp : symFault l[k] = 0) : symsF (l.drop k) k = symsF (l.drop (k + 1)) (k + 1) := by
  rw [List.drop_eq_getElem_cons h]; simp [symsF, hp]

/-- A block whose cells are a configuration's. -/
def CfgBox (w : World) (p : Nat) (c : Cfg) : Prop :=
  w.cell? ⟨p, 2, none⟩ = some (.int .i64 c.index) ∧ w.cell? ⟨p, 3, none⟩ = some (.int .i64 c.f0) ∧ w.cell? ⟨p, 4, none⟩ = some (.int .i64 c.f1) ∧ w.cell? ⟨p, 5, none⟩ = some (.int .i64 c.f2) ∧
  w.cell? ⟨p, 6, none⟩ = some (.int .i64 c.h0) ∧ w.cell? ⟨p, 7, none⟩ = some (.int .i64 c.h1)
theorem CfgBox.below {w w' : World} {p : Nat} {c : Cfg} (h : CfgBox w p c) (hp : p < w.heap.size) (hb : Below w.heap.size w w') : CfgBox w' p c := by
  obtain ⟨h2, h3, h4, h5, h6, h7⟩ := h
  exact ⟨by rw [hb.cell (p := ⟨p, 2, none⟩) hp]; exact h2, by rw [hb.cell (p := ⟨p, 3, none⟩) hp]; exact h3, by rw [hb.cell (p := ⟨p, 4, none⟩) hp]; exact h4,
    by rw [hb.cell (p := ⟨p, 5, none⟩) hp]; exact h5, by rw [hb.cell (p := ⟨p, 6, none⟩) hp]; exact h6, by rw [hb.cell (p := ⟨p, 7, none⟩) hp]; exact h7⟩

theorem d1 (p : Nat) (c : Cfg) (w : World) (h : CfgBox w p c) :
    Calls Tryz.prog 34 #[.pointer (some ⟨p, 0, none⟩)] w fun e w' => e = .returned (.bool (k1 c)) ∧ Below w.heap.size w w' := by
  obtain ⟨h2, _, _, _, _, _⟩ := h
  go_enter Tryz.func34, Tryz.ntmps34
  go_wp2_with fail
  refine (all_any _ _ [c.index] _ _ _ (by simp [maxLen]) (nums_new _ _ _ _ _ rfl rfl)).mono ?_
  rintro e w' ⟨rfl, hb⟩
  go_wp2
  go_ret
  exact ⟨rfl, ((Below.refl _ _).alloc (Nat.le_refl _) _).trans (hb.mono (by simp))⟩

theorem d3 (p : Nat) (c : Cfg) (w : World) (h : CfgBox w p c) :
    Calls Tryz.prog 35 #[.pointer (some ⟨p, 0, none⟩)] w fun e w' => e = .returned (.bool (k3 c)) ∧ Below w.heap.size w w' := by
  obtain ⟨_, _, _, _, h6, h7⟩ := h
  go_enter Tryz.func35, Tryz.ntmps35
  go_wp2_with fail
  refine (all_any _ _ [c.h0, c.h1] _ _ _ (by simp [maxLen]) (nums_new _ _ _ _ _ rfl rfl)).mono ?_
  rintro e w' ⟨rfl, hb⟩
  go_wp2
  go_ret
  exact ⟨rfl, ((Below.refl _ _).alloc (Nat.le_refl _) _).trans (hb.mono (by simp))⟩

theorem d2 (p : Nat) (c : Cfg) (w : World) (h : CfgBox w p c) (hp : p < w.heap.size) :
    Calls Tryz.prog 32 #[.pointer (some ⟨p, 0, none⟩)] w fun e w' => e = .returned (.bool (k2 c)) ∧ Below w.heap.size w w' := by
  have hB := Lib.hid h
  obtain ⟨_, h3, h4, h5, _, _⟩ := h
  go_enter Tryz.func32, Tryz.ntmps32
  go_wp2_with fail
  refine (all_any _ _ [c.f0, c.f1, c.f2] _ _ _ (by simp [maxLen]) (nums_new _ _ _ _ _ rfl rfl)).mono ?_
  rintro e w' ⟨rfl, hb⟩
  have hb' : Below w.heap.size w w' := ((Below.refl _ _).alloc (Nat.le_refl _) _).trans (hb.mono (by simp))
  clear h3 h4 h5
  obtain ⟨_, h3, h4, h5, _, _⟩ := hB.out.below hp hb'
  cases hr : allIn 1 9999 [c.f0, c.f1, c.f2] with
  | false =>
    have HS := Lib.hid (show k2 c = false by simp [k2, hr])
    go_wp2
    go_ret
    exact ⟨ret_bool HS.out.symm, hb'⟩
  | true =>
  have HR := Lib.hid hr
  clear hr
  by_cases h01 : c.f0 < c.f1
  · by_cases h12 : c.f1 < c.f2
    · have HS := Lib.hid (show k2 c = true by simp [k2, HR.out, h01, h12])
      go_wp2
      go_ret
      exact ⟨ret_bool HS.out.symm, hb'⟩
    · have HS := Lib.hid (show k2 c = false by simp [k2, h12])
      go_wp2
      go_ret
      exact ⟨ret_bool (by rw [HS.out]; simp; omega), hb'⟩
  · have HS := Lib.hid (show k2 c = false by simp [k2, h01])
    go_wp2
    go_ret
    exact ⟨ret_bool HS.out.symm, hb'⟩

def rules (p : Nat) (c : Cfg) : List First.R :=
  [⟨34, #[.pointer (some ⟨p, 0, none⟩)], 9, k1 c⟩, ⟨32, #[.pointer (some ⟨p, 0, none⟩)], 9, k2 c⟩, ⟨35, #[.pointer (some ⟨p, 0, none⟩)], 9, k3 c⟩]
theorem fault_rules (p : Nat) (c : Cfg) : First.fault (rules p c) = restF c := by
  unfold rules restF
  simp only [First.fault]
  cases k1 c <;> cases k2 c <;> cases k3 c <;> rfl
theorem in1 (c : Array Value) (w : World) : (callFunc 32 c).run Tryz.prog w = .ok (.enter 32 c) w := callFunc_enter Tryz.func32 (by kernel_rfl) (by kernel_rfl) c w
theorem in2 (c : Array Value) (w : World) : (callFunc 34 c).run Tryz.prog w = .ok (.enter 34 c) w := callFunc_enter Tryz.func34 (by kernel_rfl) (by kernel_rfl) c w
theorem in3 (c : Array Value) (w : World) : (callFunc 35 c).run Tryz.prog w = .ok (.enter 35 c) w := callFunc_enter Tryz.func35 (by kernel_rfl) (by kernel_rfl) c w

theorem check_none (c : Cfg) (h : allIn 1 8 [(c.syms.length : Int)] = false) : checkF c = (9, 0) := by simp [checkF, h]
theorem check_sym (c : Cfg) (h : allIn 1 8 [(c.syms.length : Int)] = true) (hs : (symsF c.syms 0).1 ≠ 0) : checkF c = symsF c.syms 0 := by simp [checkF, h, hs]
theorem check_tab (c : Cfg) (h : allIn 1 8 [(c.syms.length : Int)] = true) (hs : (symsF c.syms 0).1 = 0) (ht : (tableF c.tab).1 ≠ 0) : checkF c = tableF c.tab := by simp [checkF, h, hs, ht]
theorem check_last (c : Cfg) (h : allIn 1 8 [(c.syms.length : Int)] = true) (hs : (symsF c.syms 0).1 = 0) (ht : (tableF c.tab).1 = 0) : checkF c = (restF c, 0) := by simp only [checkF, h, if_true, hs, ht]

set_option maxHeartbeats 4000000 in
theorem check_any (c : Cfg) (sa ta : Option Addr) (sc tc : Nat) (w : World) (hin : c.In w sa ta) :
    Calls Tryz.prog 9 #[.agg (c.cells sa ta sc tc)] w fun e w' => e = .returned (.tuple #[.int .i64 (checkF c).1, .int .i64 (checkF c).2]) ∧ Below w.heap.size w w' := by
  obtain ⟨hsy, htb, hns, hnt⟩ := hin
  have hns' := hns
  unfold maxLen at hns'
  have hbx := Lib.hid (show ∀ w' : World, Below (w.heap.size + 1) (w.alloc (.cells (c.cells sa ta sc tc) 27)) w' → CfgBox w' w.heap.size c from fun w' hb =>
    CfgBox.below ⟨cell_new _ _ _ _ _ _ rfl rfl, cell_new _ _ _ _ _ _ rfl rfl, cell_new _ _ _ _ _ _ rfl rfl, cell_new _ _ _ _ _ _ rfl rfl, cell_new _ _ _ _ _ _ rfl rfl, cell_new _ _ _ _ _ _ rfl rfl⟩ (by simp) (hb.mono (by simp)))
  have hsl := Lib.hid (show ∀ w' : World, Below (w.heap.size + 1) (w.alloc (.cells (c.cells sa ta sc tc) 27)) w' → w'.cell? ⟨w.heap.size, 0, none⟩ = some (.slice sa c.syms.length sc) ∧ w'.cell? ⟨w.heap.size, 1, none⟩ = some (.slice ta c.tab.length tc) from fun w' hb => by
    rw [hb.cell (p := ⟨w.heap.size, 0, none⟩) (by simp), hb.cell (p := ⟨w.heap.size, 1, none⟩) (by simp)]
    exact ⟨cell_new _ _ _ _ _ _ rfl rfl, cell_new _ _ _ _ _ _ rfl rfl⟩)
  have hba := Lib.hid (show Below w.heap.size w (w.alloc (.cells (c.cells sa ta sc tc) 27)) from (Below.refl _ _).alloc (Nat.le_refl _) _)
  have hbz := Lib.hid (show (w.alloc (.cells (c.cells sa ta sc tc) 27)).heap.size = w.heap.size + 1 by simp)
  unfold Cfg.cells at *
  go_enter Tryz.func9, Tryz.ntmps9
  go_wp2_with fail
  refine (all_any _ _ [(c.syms.length : Int)] _ _ _ (by simp [maxLen]) (nums_new _ _ _ _ _ (by simp) rfl)).mono ?_
  rintro e w0 ⟨rfl, hb0⟩
  generalize hW : w.alloc (Obj.cells #[Value.slice sa c.syms.length sc, Value.slice ta c.tab.length tc, Value.int IntKind.i64 c.index, Value.int IntKind.i64 c.f0, Value.int IntKind.i64 c.f1, Value.int IntKind.i64 c.f2, Value.int IntKind.i64 c.h0, Value.int IntKind.i64 c.h1] 27) = W at hbx hsl hba hbz hb0
  clear hW
  have hsz := hbz.out
  have hb : Below (w.heap.size + 1) W w0 := ((Below.refl _ _).alloc (by omega) _).trans (hb0.mono (by simp; omega))
  clear hb0 hsz
  cases hl : allIn 1 8 [(c.syms.length : Int)] with
  | false =>
    have HS := Lib.hid (check_none c hl)
    go_wp2
    go_ret2
    exact ⟨ret_two HS.out, hba.out.trans (hb.mono (by omega))⟩
  | true =>
  have HL := Lib.hid hl
  clear hl
  obtain ⟨e0, _⟩ := hsl.out w0 hb
  go_wp2_with fail
  clear e0
  go_loopw [19] (fun i wr => ∃ k : Nat, k ≤ c.syms.length ∧ i = .int .i64 k ∧ Below (w.heap.size + 1) W wr ∧ symsF (c.syms.drop k) k = symsF c.syms 0) (fun i _ => c.syms.length - (intOf i).toNat)
  case atStart => exact ⟨0, by omega, rfl, hb, rfl⟩
  case round =>
    clear hb
    obtain ⟨k, hk, rfl, hb, hf⟩ := hrel
    have HF := Lib.hid hf
    clear hf
    have hwr : w.heap.size + 1 ≤ wr.heap.size := by have := hb.size; rw [hbz.out] at this; exact this
    have hbw := hba.out.trans (hb.mono (Nat.le_succ _))
    by_cases hlt : k < c.syms.length
    · obtain ⟨b, off, rfl, hbl, hc⟩ := hsy k hlt
      have HM := Lib.hid (syms_miss c.syms k hlt)
      have HH := Lib.hid (syms_hit c.syms k hlt)
      generalize c.syms[k] = s at hc HM HH
      have g0 : wr.cell? ⟨b, off + k * 16, none⟩ = some (.int .i64 s.grid) := by rw [hbw.cell (p := ⟨b, _, none⟩) hbl]; exact hc 0 _ rfl
      have g1 : wr.cell? ⟨b, off + k * 16 + 1, none⟩ = some (.int .i64 s.ref) := by rw [hbw.cell (p := ⟨b, _, none⟩) hbl]; exact hc 1 _ rfl
      have g2 : wr.cell? ⟨b, off + k * 16 + 2, none⟩ = some (.int .i64 s.static) := by rw [hbw.cell (p := ⟨b, _, none⟩) hbl]; exact hc 2 _ rfl
      have g3 : wr.cell? ⟨b, off + k * 16 + 3, none⟩ = some (.int .i64 s.dynamic) := by rw [hbw.cell (p := ⟨b, _, none⟩) hbl]; exact hc 3 _ rfl
      have g4 : wr.cell? ⟨b, off + k * 16 + 4, none⟩ = some (.int .i64 s.window) := by rw [hbw.cell (p := ⟨b, _, none⟩) hbl]; exact hc 4 _ rfl
      have g5 : wr.cell? ⟨b, off + k * 16 + 5, none⟩ = some (.int .i64 s.move) := by rw [hbw.cell (p := ⟨b, _, none⟩) hbl]; exact hc 5 _ rfl
      have g6 : wr.cell? ⟨b, off + k * 16 + 6, none⟩ = some (.int .i64 s.limit) := by rw [hbw.cell (p := ⟨b, _, none⟩) hbl]; exact hc 6 _ rfl
      have g7 : wr.cell? ⟨b, off + k * 16 + 7, none⟩ = some (.int .i64 s.pause) := by rw [hbw.cell (p := ⟨b, _, none⟩) hbl]; exact hc 7 _ rfl
      have g8 : wr.cell? ⟨b, off + k * 16 + 8, none⟩ = some (.int .i64 s.ext) := by rw [hbw.cell (p := ⟨b, _, none⟩) hbl]; exact hc 8 _ rfl
      have g9 : wr.cell? ⟨b, off + k * 16 + 9, none⟩ = some (.int .i64 s.maxExt) := by rw [hbw.cell (p := ⟨b, _, none⟩) hbl]; exact hc 9 _ rfl
      have g10 : wr.cell? ⟨b, off + k * 16 + 10, none⟩ = some (.int .i64 s.collar) := by rw [hbw.cell (p := ⟨b, _, none⟩) hbl]; exact hc 10 _ rfl
      have g11 : wr.cell? ⟨b, off + k * 16 + 11, none⟩ = some (.int .i64 s.widen) := by rw [hbw.cell (p := ⟨b, _, none⟩) hbl]; exact hc 11 _ rfl
      have g12 : wr.cell? ⟨b, off + k * 16 + 12, none⟩ = some (.int .i64 s.self) := by rw [hbw.cell (p := ⟨b, _, none⟩) hbl]; exact hc 12 _ rfl
      have g13 : wr.cell? ⟨b, off + k * 16 + 13, none⟩ = some (.int .i64 s.slots) := by rw [hbw.cell (p := ⟨b, _, none⟩) hbl]; exact hc 13 _ rfl
      have g14 : wr.cell? ⟨b, off + k * 16 + 14, none⟩ = some (.int .i64 s.levels) := by rw [hbw.cell (p := ⟨b, _, none⟩) hbl]; exact hc 14 _ rfl
      have g15 : wr.cell? ⟨b, off + k * 16 + 15, none⟩ = some (.int .i64 s.short) := by rw [hbw.cell (p := ⟨b, _, none⟩) hbl]; exact hc 15 _ rfl
      clear hc hsy htb
      have hbl' : b < wr.heap.size := by omega
      go_wp2_with fail
      refine (symbol_any s _).mono ?_
      rintro e w1 ⟨rfl, hb1⟩
      have hb' : Below (w.heap.size + 1) W w1 := (hb.alloc hwr _).trans (hb1.mono (by simp; omega))
      clear g0 g1 g2 g3 g4 g5 g6 g7 g8 g9 g10 g11 g12 g13 g14 g15 hb1
      by_cases hp : symFault s = 0
      · have HX := Lib.hid (HM.out hp)
        have hp' : (symFault s != 0) = false := by simp [hp]
        clear hp
        go_wp2
        go_roundw
        case rel => exact ⟨k + 1, by omega, by go_num, hb', by rw [← HX.out, HF.out]⟩
        case measure => simp [intOf]; omega
      · have HX := Lib.hid (HH.out hp)
        have hp' : (symFault s != 0) = true := by simp [hp]
        have HP := Lib.hid hp
        clear hp
        go_wp2
        go_ret2
        exact ⟨ret_two (by rw [check_sym c HL.out (by rw [← HF.out, HX.out]; exact HP.out), ← HF.out, HX.out]), hba.out.trans (hb'.mono (by omega))⟩
    · have HZ : Hid ((symsF c.syms 0).1 = 0) := by
        have := HF.out
        rw [List.drop_eq_nil_of_le (by omega)] at this
        show (symsF c.syms 0).1 = 0
        rw [← this]; rfl
      obtain ⟨_, e1⟩ := hsl.out wr hb
      clear hsy
      go_wp2_with fail
      refine (table_any ta tc c.tab wr hnt (htb.below hbw)).mono ?_
      rintro e w1 ⟨rfl, hb1⟩
      have hb' : Below (w.heap.size + 1) W w1 := hb.trans (hb1.mono hwr)
      clear htb hb1 e1
      by_cases hp : (tableF c.tab).1 = 0
      · have hp' : ((tableF c.tab).1 != 0) = false := by simp [hp]
        have HS := Lib.hid (check_last c HL.out HZ.out hp)
        clear hp
        have hw1 : w.heap.size + 1 ≤ w1.heap.size := by have := hb'.size; rw [hbz.out] at this; exact this
        go_wp2_with fail
        refine (First.first_any w1.heap.size 3 (rules w.heap.size c) _ (by simp [rules, maxLen]) (by simp) ?_ ?_ ?_).mono ?_
        · intro i hi
          have hi' : i = 0 ∨ i = 1 ∨ i = 2 := by simp [rules] at hi; omega
          rcases hi' with rfl | rfl | rfl <;> exact ⟨cell_new _ _ _ _ _ _ rfl rfl, cell_new _ _ _ _ _ _ rfl rfl⟩
        · intro i hi
          have hi' : i = 0 ∨ i = 1 ∨ i = 2 := by simp [rules] at hi; omega
          rcases hi' with rfl | rfl | rfl
          · exact in2 _
          · exact in1 _
          · exact in3 _
        · intro i hi _ w' hbb
          have hb2 : Below (w.heap.size + 1) W w' := (hb'.alloc hw1 _).trans (hbb.mono (by simp; omega))
          have hx := hbx.out w' hb2
          have hpp : w.heap.size < w'.heap.size := by have := hb2.size; rw [hbz.out] at this; omega
          have hi' : i = 0 ∨ i = 1 ∨ i = 2 := by simp [rules] at hi; omega
          rcases hi' with rfl | rfl | rfl
          · exact d1 _ _ _ hx
          · exact d2 _ _ _ hx hpp
          · exact d3 _ _ _ hx
        · rintro e w2 ⟨rfl, hb2⟩
          rw [fault_rules]
          go_wp2
          go_ret2
          exact ⟨ret_two HS.out, (hba.out.trans (((hb'.alloc hw1 _).trans (hb2.mono (by simp; omega))).mono (by omega)))⟩
      · have hp' : ((tableF c.tab).1 != 0) = true := by simp [hp]
        have HS := Lib.hid (check_tab c HL.out HZ.out hp)
        clear hp
        go_wp2
        go_ret2
        exact ⟨by rw [HS.out]; rfl, hba.out.trans (hb'.mono (by omega))⟩
end Go.Proofs.YtmkcooamgojbpaaGreatDoor.Check

/- damperref07.Check: the document's fault of a configuration, and where. -/
namespace Go.Proofs.YtmkcooamgojbpaaGreatDoor.RefCheck
open Go.RowKit Go.Proofs.YtmkcooamgojbpaaGreatDoor.Kit Go.Proofs.YtmkcooamgojbpaaGreatDoor.All Go.Proofs.YtmkcooamgojbpaaGreatDoor.Symbol Go.Proofs.YtmkcooamgojbpaaGreatDoor.Table Go.Proofs.YtmkcooamgojbpaaGreatDoor.Check Go.Proofs.YtmkcooamgojbpaaGreatDoor.RefSymbol

def rsymsF : List Sym → Nat → Int × Int
  | [], _ => (0, 0)
  | s :: l, i => if refSym s = 0 then rsymsF l (i + 1) else (refSym s, (i : Int))
theorem syms_hit (l : List Sym) (k : Nat) (h : k < l.length) (hp : ¬ refSym l[k] = 0) : rsymsF (l.drop k) k = (refSym l[k], (k : Int)) := by
  rw [List.drop_eq_getElem_cons h]; simp [rsymsF, hp]
theorem syms_miss (l : List Sym) (k : Nat) (h : k < l.length) (hp : refSym l[k] = 0) : rsymsF (l.drop k) k = rsymsF (l.drop (k + 1)) (k + 1) := by
  rw [List.drop_eq_getElem_cons h]; simp [rsymsF, hp]

/-- The rows of a table, each behind the one ahead of it; the first has none ahead. -/
def rtab : List (Int × Int) → Option Int → Nat → Int × Int
  | [], _, _ => (0, 0)
  | (t, p) :: l, last, i => if !inR 0 1125899906842624 t || (match last with | none => false | some b => decide (t ≤ b)) then (9, (i : Int)) else if inR 0 2 p then rtab l (some t) (i + 1) else (10, (i : Int))
def before (l : List (Int × Int)) : Nat → Option Int
  | 0 => none
  | k + 1 => l[k]?.map (·.1)
def rhead (l : List (Int × Int)) (k : Nat) : Int × Int := rtab (l.drop k) (before l k) k

theorem rhead_out (l : List (Int × Int)) (k : Nat) (h : k < l.length) (h1 : inR 0 1125899906842624 l[k].1 = false) : rhead l k = (9, (k : Int)) := by
  unfold rhead; rw [List.drop_eq_getElem_cons h]; simp [rtab, h1]
theorem rhead_late (l : List (Int × Int)) (k : Nat) (h : k + 1 < l.length) (h1 : l[k + 1].1 ≤ l[k].1) : rhead l (k + 1) = (9, ((k + 1 : Nat) : Int)) := by
  unfold rhead; rw [List.drop_eq_getElem_cons h]
  have hk : k < l.length := by omega
  simp [rtab, before, hk, h1]
theorem rhead_phase0 (l : List (Int × Int)) (h : 0 < l.length) (h1 : inR 0 1125899906842624 l[0].1 = true) (h2 : inR 0 2 l[0].2 = false) : rhead l 0 = (10, ((0 : Nat) : Int)) := by
  unfold rhead; rw [List.drop_eq_getElem_cons h]; simp [rtab, before, h1, h2]
theorem rhead_on0 (l : List (Int × Int)) (h : 0 < l.length) (h1 : inR 0 1125899906842624 l[0].1 = true) (h2 : inR 0 2 l[0].2 = true) : rhead l 0 = rhead l 1 := by
  unfold rhead; rw [List.drop_eq_getElem_cons h]; simp [rtab, before, h1, h2, h]
theorem rhead_phase (l : List (Int × Int)) (k : Nat) (h : k + 1 < l.length) (h1 : inR 0 1125899906842624 l[k + 1].1 = true) (h2 : l[k].1 < l[k + 1].1) (h3 : inR 0 2 l[k + 1].2 = false) : rhead l (k + 1) = (10, ((k + 1 : Nat) : Int)) := by
  unfold rhead; rw [List.drop_eq_getElem_cons h]
  have hk : k < l.length := by omega
  have h2' : ¬ l[k + 1].1 ≤ l[k].1 := by omega
  simp [rtab, before, hk, h1, h2', h3]
theorem rhead_on (l : List (Int × Int)) (k : Nat) (h : k + 1 < l.length) (h1 : inR 0 1125899906842624 l[k + 1].1 = true) (h2 : l[k].1 < l[k + 1].1) (h3 : inR 0 2 l[k + 1].2 = true) : rhead l (k + 1) = rhead l (k + 2) := by
  unfold rhead; rw [List.drop_eq_getElem_cons h]
  have hk : k < l.length := by omega
  have h2' : ¬ l[k + 1].1 ≤ l[k].1 := by omega
  simp [rtab, before, hk, h1, h2', h3, h]

/-- The falls, one behind the other, then the halts. -/
def fallsF (c : Cfg) : Bool := inR 1 9999 c.f0 && inR 1 9999 c.f1 && decide (c.f0 < c.f1) && inR 1 9999 c.f2 && decide (c.f1 < c.f2)
def restR (c : Cfg) : Int := if inR 1 1099511627776 c.index && fallsF c && inR 1 1099511627776 c.h0 && inR 1 1099511627776 c.h1 then 0 else 9
def few (lo hi n : Int) : Bool := !(decide (n < lo) || decide (hi < n))
def rtableF (l : List (Int × Int)) : Int × Int := if few 1 20 (l.length : Int) then rhead l 0 else (9, 0)
def rcheckF (c : Cfg) : Int × Int :=
  if few 1 8 (c.syms.length : Int) then
    (if (rsymsF c.syms 0).1 = 0 then
      (if (rtableF c.tab).1 = 0 then (restR c, 0) else rtableF c.tab)
    else rsymsF c.syms 0)
  else (9, 0)

theorem check_none (c : Cfg) (h : few 1 8 (c.syms.length : Int) = false) : rcheckF c = (9, 0) := by simp [rcheckF, h]
theorem check_sym (c : Cfg) (h : few 1 8 (c.syms.length : Int) = true) (hs : (rsymsF c.syms 0).1 ≠ 0) : rcheckF c = rsymsF c.syms 0 := by simp [rcheckF, h, hs]
theorem check_tab (c : Cfg) (h : few 1 8 (c.syms.length : Int) = true) (hs : (rsymsF c.syms 0).1 = 0) (ht : (rtableF c.tab).1 ≠ 0) : rcheckF c = rtableF c.tab := by simp [rcheckF, h, hs, ht]
theorem check_last (c : Cfg) (h : few 1 8 (c.syms.length : Int) = true) (hs : (rsymsF c.syms 0).1 = 0) (ht : (rtableF c.tab).1 = 0) : rcheckF c = (restR c, 0) := by simp only [rcheckF, h, if_true, hs, ht]
theorem tab_none (l : List (Int × Int)) (h : few 1 20 (l.length : Int) = false) : rtableF l = (9, 0) := by simp [rtableF, h]
theorem tab_some (l : List (Int × Int)) (h : few 1 20 (l.length : Int) = true) : rtableF l = rhead l 0 := by simp [rtableF, h]
end Go.Proofs.YtmkcooamgojbpaaGreatDoor.RefCheck

/- The program's answer on a configuration is the document's: rcheckF is checkF. -/
namespace Go.Proofs.YtmkcooamgojbpaaGreatDoor.CheckEq
set_option linter.unusedVariables false
open Go.RowKit Go.Proofs.YtmkcooamgojbpaaGreatDoor.Kit Go.Proofs.YtmkcooamgojbpaaGreatDoor.Fix Go.Proofs.YtmkcooamgojbpaaGreatDoor.Symbol Go.Proofs.YtmkcooamgojbpaaGreatDoor.Table Go.Proofs.YtmkcooamgojbpaaGreatDoor.Check Go.Proofs.YtmkcooamgojbpaaGreatDoor.RefSymbol Go.Proofs.YtmkcooamgojbpaaGreatDoor.RefCheck

theorem few_eq (lo hi n : Int) : few lo hi n = allIn lo hi [n] := by simp [few, allIn]
theorem inR_eq (lo hi n : Int) : inR lo hi n = allIn lo hi [n] := by
  rw [Bool.eq_iff_iff]; simp [inR, allIn]
theorem all_cons (lo hi n m : Int) (l : List Int) : allIn lo hi (n :: m :: l) = (allIn lo hi [n] && allIn lo hi (m :: l)) := by
  simp [allIn]

theorem price_of (s : Sym) (h0 : inR 1 1099511627776 s.grid = true) (h1 : inR 1 1099511627776 s.ref = true) : (price s.ref s.grid == 0) = (s.ref % s.grid == 0) := by
  simp [inR] at h0 h1
  have hd : down s.ref s.grid = s.ref / s.grid * s.grid := by unfold down; rw [if_neg (by omega)]
  have hp : price s.ref s.grid = if s.ref / s.grid * s.grid = s.ref then 0 else 8 := by
    unfold price; rw [if_neg (by omega), if_neg (by omega), hd]
  rw [hp]
  have hm : s.ref % s.grid = s.ref - s.ref / s.grid * s.grid := by
    have := Int.emod_add_mul_ediv s.ref s.grid
    rw [Int.mul_comm] at this
    omega
  by_cases h : s.ref / s.grid * s.grid = s.ref
  · rw [if_pos h, hm, h]; simp
  · rw [if_neg h, hm]; simp; omega

theorem sym_eq (s : Sym) : refSym s = symFault s := by
  unfold refSym symFault r1 r2 r3 r4 r5 r6 r7
  simp only [inR_eq, all_cons, Bool.and_assoc]
  by_cases h0 : allIn 1 1099511627776 [s.grid] = true
  · by_cases h1 : allIn 1 1099511627776 [s.ref] = true
    · rw [price_of s (by rw [inR_eq]; exact h0) (by rw [inR_eq]; exact h1)]
      simp only [h0, h1]
      generalize (s.ref % s.grid == 0) = b1
      generalize allIn 0 9999 [s.static] = a1
      generalize allIn 0 9999 [s.dynamic] = a2
      generalize allIn 0 9999 [s.move] = a3
      generalize allIn 0 9999 [s.collar] = a4
      generalize allIn 0 9999 [s.widen] = a5
      generalize allIn 0 9999 [s.short] = a6
      generalize allIn 1 1099511627776 [s.window] = b2
      generalize allIn 1 1099511627776 [s.limit] = b3
      generalize allIn 1 1099511627776 [s.pause] = b4
      generalize allIn 1 1099511627776 [s.ext] = b5
      generalize allIn 0 10 [s.maxExt] = b6
      generalize allIn 0 3 [s.self] = b7
      generalize allIn 1 500 [s.slots] = b8
      generalize allIn 1 200 [s.levels] = b9
      generalize decide (s.dynamic ≤ s.static) = b10
      cases b1 <;> simp
      cases a1 <;> simp
      cases a2 <;> simp
      cases a3 <;> simp
      cases a4 <;> simp
      cases a5 <;> simp
      cases a6 <;> simp
      cases b2 <;> simp
      cases b3 <;> simp
      cases b4 <;> simp
      cases b5 <;> simp
      cases b6 <;> simp
      cases b7 <;> simp
    · simp only [h1]; simp
  · simp only [h0]; simp

theorem syms_eq (l : List Sym) (i : Nat) : rsymsF l i = symsF l i := by
  induction l generalizing i with
  | nil => rfl
  | cons s l ih => simp only [rsymsF, symsF, sym_eq, ih]

theorem tab_eq (l : List (Int × Int)) : ∀ (last : Int) (i : Nat), 0 ≤ last → rtab l (some last) i = tabFault l last i := by
  induction l with
  | nil => intros; rfl
  | cons r l ih =>
    intro last i h
    obtain ⟨t, p⟩ := r
    simp only [rtab, tabFault]
    have e : (!inR 0 1125899906842624 t || decide (t ≤ last)) = late last t := by
      rw [Bool.eq_iff_iff]; simp [inR, late]; omega
    rw [e, inR_eq]
    cases hl : late last t with
    | true => simp
    | false =>
      have : 0 ≤ t := by simp [late] at hl; omega
      simp only [Bool.false_eq_true, if_false]
      rw [ih t (i + 1) this]

theorem head_eq (l : List (Int × Int)) : rhead l 0 = tabFault l (-1) 0 := by
  show rtab l none 0 = _
  cases l with
  | nil => rfl
  | cons r l =>
    obtain ⟨t, p⟩ := r
    simp only [rtab, tabFault]
    have e : (!inR 0 1125899906842624 t || false) = late (-1) t := by
      rw [Bool.eq_iff_iff]; simp [inR, late]; omega
    rw [e, inR_eq]
    cases hl : late (-1) t with
    | true => simp
    | false =>
      have : 0 ≤ t := by simp [late] at hl; omega
      simp only [Bool.false_eq_true, if_false]
      rw [tab_eq l t (0 + 1) this]

theorem rest_eq (c : Cfg) : restR c = restF c := by
  unfold restR restF fallsF k1 k2 k3
  simp only [inR_eq, all_cons, Bool.and_assoc]
  congr 2
  generalize allIn 1 1099511627776 [c.index] = b1
  generalize allIn 1 1099511627776 [c.h0] = b2
  generalize allIn 1 1099511627776 [c.h1] = b3
  generalize allIn 1 9999 [c.f0] = a1
  generalize allIn 1 9999 [c.f1] = a2
  generalize allIn 1 9999 [c.f2] = a3
  generalize decide (c.f0 < c.f1) = d1
  generalize decide (c.f1 < c.f2) = d2
  revert b1 b2 b3 a1 a2 a3 d1 d2
  decide

theorem check_eq (c : Cfg) : rcheckF c = checkF c := by
  unfold rcheckF checkF rtableF tableF
  simp only [few_eq, syms_eq, head_eq, rest_eq]
end Go.Proofs.YtmkcooamgojbpaaGreatDoor.CheckEq

/- damperref07.Check: its walk. -/
namespace Go.Proofs.YtmkcooamgojbpaaGreatDoor.RefCheck
open Go.RowKit Go.Proofs.YtmkcooamgojbpaaGreatDoor.Kit Go.Proofs.YtmkcooamgojbpaaGreatDoor.All Go.Proofs.YtmkcooamgojbpaaGreatDoor.Symbol Go.Proofs.YtmkcooamgojbpaaGreatDoor.Table Go.Proofs.YtmkcooamgojbpaaGreatDoor.Check Go.Proofs.YtmkcooamgojbpaaGreatDoor.RefSymbol

theorem in_quiet (n lo hi : Int) (w : World) : Calls Tryz.prog 62 #[.int .i64 n, .int .i64 lo, .int .i64 hi] w fun e w' => e = .returned (.bool (inR lo hi n)) ∧ w' = w :=
  (in_any n lo hi w).mono fun _ _ ⟨h, h'⟩ => ⟨h, h'.symm⟩

set_option maxRecDepth 100000 in
set_option maxHeartbeats 8000000 in
theorem check_ref (c : Cfg) (sa ta : Option Addr) (sc tc : Nat) (w : World) (hin : c.In w sa ta) :
    Calls Tryz.prog 25 #[.agg (c.cells sa ta sc tc)] w fun e w' => e = .returned (.tuple #[.int .i64 (rcheckF c).1, .int .i64 (rcheckF c).2]) ∧ Below w.heap.size w w' := by
  obtain ⟨hsy, htb, hns, hnt⟩ := hin
  have hns' := hns
  have hnt' := hnt
  unfold maxLen at hns' hnt'
  have hbx := Lib.hid (show ∀ w' : World, Below (w.heap.size + 1) (w.alloc (.cells (c.cells sa ta sc tc) 27)) w' → CfgBox w' w.heap.size c from fun w' hb =>
    CfgBox.below ⟨cell_new _ _ _ _ _ _ rfl rfl, cell_new _ _ _ _ _ _ rfl rfl, cell_new _ _ _ _ _ _ rfl rfl, cell_new _ _ _ _ _ _ rfl rfl, cell_new _ _ _ _ _ _ rfl rfl, cell_new _ _ _ _ _ _ rfl rfl⟩ (by simp) (hb.mono (by simp)))
  have hsl := Lib.hid (show ∀ w' : World, Below (w.heap.size + 1) (w.alloc (.cells (c.cells sa ta sc tc) 27)) w' → w'.cell? ⟨w.heap.size, 0, none⟩ = some (.slice sa c.syms.length sc) ∧ w'.cell? ⟨w.heap.size, 1, none⟩ = some (.slice ta c.tab.length tc) from fun w' hb => by
    rw [hb.cell (p := ⟨w.heap.size, 0, none⟩) (by simp), hb.cell (p := ⟨w.heap.size, 1, none⟩) (by simp)]
    exact ⟨cell_new _ _ _ _ _ _ rfl rfl, cell_new _ _ _ _ _ _ rfl rfl⟩)
  have hba := Lib.hid (show Below w.heap.size w (w.alloc (.cells (c.cells sa ta sc tc) 27)) from (Below.refl _ _).alloc (Nat.le_refl _) _)
  have hbz := Lib.hid (show (w.alloc (.cells (c.cells sa ta sc tc) 27)).heap.size = w.heap.size + 1 by simp)
  unfold Cfg.cells at *
  by_cases hlow : (c.syms.length : Int) < 1
  · have HS := Lib.hid (check_none c (by simp [few, hlow]))
    go_enter Tryz.func25, Tryz.ntmps25
    go_wp2_with fail
    go_ret2
    exact ⟨ret_two HS.out, hba.out⟩
  by_cases hhigh : (8 : Int) < (c.syms.length : Int)
  · have HS := Lib.hid (check_none c (by simp [few, hhigh]))
    go_enter Tryz.func25, Tryz.ntmps25
    go_wp2_with fail
    go_ret2
    exact ⟨ret_two HS.out, hba.out⟩
  have HL : Hid (few 1 8 (c.syms.length : Int) = true) := Lib.hid (by simp [few, hlow, hhigh])
  have hlow' : (1 : Int) ≤ (c.syms.length : Int) := by omega
  have hhigh' : (c.syms.length : Int) ≤ 8 := by omega
  clear hlow hhigh
  go_enter Tryz.func25, Tryz.ntmps25
  go_wp2_with fail
  generalize hW : w.alloc (Obj.cells #[Value.slice sa c.syms.length sc, Value.slice ta c.tab.length tc, Value.int IntKind.i64 c.index, Value.int IntKind.i64 c.f0, Value.int IntKind.i64 c.f1, Value.int IntKind.i64 c.f2, Value.int IntKind.i64 c.h0, Value.int IntKind.i64 c.h1] 27) = W at hbx hsl hba hbz ⊢
  clear hW
  go_loopw [4] (fun i wr => ∃ k : Nat, k ≤ c.syms.length ∧ i = .int .i64 k ∧ Below (w.heap.size + 1) W wr ∧ rsymsF (c.syms.drop k) k = rsymsF c.syms 0) (fun i _ => c.syms.length - (intOf i).toNat)
  case atStart => exact ⟨0, by omega, rfl, Below.refl _ _, rfl⟩
  case round =>
    obtain ⟨k, hk, rfl, hb, hf⟩ := hrel
    have HF := Lib.hid hf
    clear hf
    have hwr : w.heap.size + 1 ≤ wr.heap.size := by have := hb.size; rw [hbz.out] at this; exact this
    have hbw := hba.out.trans (hb.mono (Nat.le_succ _))
    obtain ⟨e0, e1⟩ := hsl.out wr hb
    by_cases hlt : k < c.syms.length
    · obtain ⟨b, off, rfl, hbl, hc⟩ := hsy k hlt
      have HM := Lib.hid (syms_miss c.syms k hlt)
      have HH := Lib.hid (syms_hit c.syms k hlt)
      generalize c.syms[k] = s at hc HM HH
      have g0 : wr.cell? ⟨b, off + k * 16, none⟩ = some (.int .i64 s.grid) := by rw [hbw.cell (p := ⟨b, _, none⟩) hbl]; exact hc 0 _ rfl
      have g1 : wr.cell? ⟨b, off + k * 16 + 1, none⟩ = some (.int .i64 s.ref) := by rw [hbw.cell (p := ⟨b, _, none⟩) hbl]; exact hc 1 _ rfl
      have g2 : wr.cell? ⟨b, off + k * 16 + 2, none⟩ = some (.int .i64 s.static) := by rw [hbw.cell (p := ⟨b, _, none⟩) hbl]; exact hc 2 _ rfl
      have g3 : wr.cell? ⟨b, off + k * 16 + 3, none⟩ = some (.int .i64 s.dynamic) := by rw [hbw.cell (p := ⟨b, _, none⟩) hbl]; exact hc 3 _ rfl
      have g4 : wr.cell? ⟨b, off + k * 16 + 4, none⟩ = some (.int .i64 s.window) := by rw [hbw.cell (p := ⟨b, _, none⟩) hbl]; exact hc 4 _ rfl
      have g5 : wr.cell? ⟨b, off + k * 16 + 5, none⟩ = some (.int .i64 s.move) := by rw [hbw.cell (p := ⟨b, _, none⟩) hbl]; exact hc 5 _ rfl
      have g6 : wr.cell? ⟨b, off + k * 16 + 6, none⟩ = some (.int .i64 s.limit) := by rw [hbw.cell (p := ⟨b, _, none⟩) hbl]; exact hc 6 _ rfl
      have g7 : wr.cell? ⟨b, off + k * 16 + 7, none⟩ = some (.int .i64 s.pause) := by rw [hbw.cell (p := ⟨b, _, none⟩) hbl]; exact hc 7 _ rfl
      have g8 : wr.cell? ⟨b, off + k * 16 + 8, none⟩ = some (.int .i64 s.ext) := by rw [hbw.cell (p := ⟨b, _, none⟩) hbl]; exact hc 8 _ rfl
      have g9 : wr.cell? ⟨b, off + k * 16 + 9, none⟩ = some (.int .i64 s.maxExt) := by rw [hbw.cell (p := ⟨b, _, none⟩) hbl]; exact hc 9 _ rfl
      have g10 : wr.cell? ⟨b, off + k * 16 + 10, none⟩ = some (.int .i64 s.collar) := by rw [hbw.cell (p := ⟨b, _, none⟩) hbl]; exact hc 10 _ rfl
      have g11 : wr.cell? ⟨b, off + k * 16 + 11, none⟩ = some (.int .i64 s.widen) := by rw [hbw.cell (p := ⟨b, _, none⟩) hbl]; exact hc 11 _ rfl
      have g12 : wr.cell? ⟨b, off + k * 16 + 12, none⟩ = some (.int .i64 s.self) := by rw [hbw.cell (p := ⟨b, _, none⟩) hbl]; exact hc 12 _ rfl
      have g13 : wr.cell? ⟨b, off + k * 16 + 13, none⟩ = some (.int .i64 s.slots) := by rw [hbw.cell (p := ⟨b, _, none⟩) hbl]; exact hc 13 _ rfl
      have g14 : wr.cell? ⟨b, off + k * 16 + 14, none⟩ = some (.int .i64 s.levels) := by rw [hbw.cell (p := ⟨b, _, none⟩) hbl]; exact hc 14 _ rfl
      have g15 : wr.cell? ⟨b, off + k * 16 + 15, none⟩ = some (.int .i64 s.short) := by rw [hbw.cell (p := ⟨b, _, none⟩) hbl]; exact hc 15 _ rfl
      clear hc hsy htb e1
      go_wp2_with fail
      refine (symbol_ref s _).mono ?_
      rintro e w1 ⟨rfl, rfl⟩
      have hb' : Below (w.heap.size + 1) W (wr.alloc (.cells s.cells 46)) := hb.alloc hwr _
      have hcs : wr.heap.size < (wr.alloc (.cells s.cells 46)).heap.size := by simp
      clear g0 g1 g2 g3 g4 g5 g6 g7 g8 g9 g10 g11 g12 g13 g14 g15 e0
      generalize wr.alloc (.cells s.cells 46) = w1 at hb' hcs ⊢
      by_cases hp : refSym s = 0
      · have HX := Lib.hid (HM.out hp)
        have hp' : (refSym s != 0) = false := by simp [hp]
        clear hp
        go_wp2
        go_roundw
        case rel => exact ⟨k + 1, by omega, by go_num, hb', by rw [← HX.out, HF.out]⟩
        case measure => simp [intOf]; omega
      · have HX := Lib.hid (HH.out hp)
        have hp' : (refSym s != 0) = true := by simp [hp]
        have HP := Lib.hid hp
        clear hp
        go_wp2
        go_ret2
        exact ⟨ret_two (by rw [check_sym c HL.out (by rw [← HF.out, HX.out]; exact HP.out), ← HF.out, HX.out]), hba.out.trans (hb'.mono (by omega))⟩
    · have HZ : Hid ((rsymsF c.syms 0).1 = 0) := by
        have := HF.out
        rw [List.drop_eq_nil_of_le (by omega)] at this
        show (rsymsF c.syms 0).1 = 0
        rw [← this]; rfl
      clear hsy HF
      have hge : c.syms.length ≤ k := by omega
      by_cases tlow : (c.tab.length : Int) < 1
      · have HS := Lib.hid (tab_none c.tab (by simp [few, tlow]))
        go_wp2_with fail
        go_ret2
        exact ⟨ret_two (by rw [check_tab c HL.out HZ.out (by rw [HS.out]; decide), HS.out]), hbw⟩
      by_cases thigh : (20 : Int) < (c.tab.length : Int)
      · have HS := Lib.hid (tab_none c.tab (by simp [few, thigh]))
        go_wp2_with fail
        go_ret2
        exact ⟨ret_two (by rw [check_tab c HL.out HZ.out (by rw [HS.out]; decide), HS.out]), hbw⟩
      have HT := Lib.hid (tab_some c.tab (by simp [few, tlow, thigh]))
      have tlow' : (1 : Int) ≤ (c.tab.length : Int) := by omega
      have thigh' : (c.tab.length : Int) ≤ 20 := by omega
      clear tlow thigh
      go_wp2_with fail
      clear e0 e1 hbw hwr
      go_loopw [6] (fun i ws => ∃ m : Nat, m ≤ c.tab.length ∧ i = .int .i64 m ∧ Below (w.heap.size + 1) W ws ∧ rhead c.tab m = rhead c.tab 0) (fun i _ => c.tab.length - (intOf i).toNat)
      case atStart => exact ⟨0, by omega, rfl, hb, rfl⟩
      case round =>
        clear hb
        obtain ⟨m, hm, rfl, hb, hf⟩ := hrel
        have HF := Lib.hid hf
        clear hf hk hge
        have hwr : w.heap.size + 1 ≤ wr.heap.size := by have := hb.size; rw [hbz.out] at this; exact this
        have hbw := hba.out.trans (hb.mono (Nat.le_succ _))
        obtain ⟨e0, e1⟩ := hsl.out wr hb
        clear e0
        by_cases hlt : m < c.tab.length
        · obtain ⟨b, off, rfl, hbl, hc1, hc2⟩ := htb m hlt
          have hc0 := Lib.hid (htb)
          clear htb
          rw [← hbw.cell (p := ⟨b, _, none⟩) hbl] at hc1 hc2
          have i0 : (0 : Int) ≤ (m : Int) := by omega
          have i1 : (m : Int) < (c.tab.length : Int) := by omega
          cases hi : inR 0 1125899906842624 c.tab[m].1 with
          | false =>
            have HH := Lib.hid (rhead_out c.tab m hlt hi)
            generalize c.tab[m] = r at hc1 hc2 hi
            obtain ⟨t, p⟩ := r
            dsimp only at hc1 hc2 hi
            go_wp2_with fail
            go_quiet ((go_at_call 62; exact Calls.quiet_of_same (in_quiet _ _ _ _)))
            go_wp2
            go_ret2
            exact ⟨ret_two (by rw [check_tab c HL.out HZ.out (by rw [HT.out, ← HF.out, HH.out]; simp), HT.out, ← HF.out, HH.out]), below_drewN hbw _⟩
          | true =>
          rcases m with _ | j
          · have HP := Lib.hid (rhead_phase0 c.tab hlt hi)
            have HO := Lib.hid (rhead_on0 c.tab hlt hi)
            generalize c.tab[0] = r at hc1 hc2 hi HP HO
            obtain ⟨t, p⟩ := r
            dsimp only at hc1 hc2 hi
            have q0 : decide ((0 : Int) < 0) = false := by decide
            simp only [Nat.zero_mul, Nat.add_zero] at hc1 hc2
            go_wp2_with fail
            go_quiet ((go_at_call 62; exact Calls.quiet_of_same (in_quiet _ _ _ _)))
            clear hc1
            have hc2 : (wr.drewN nq).cell? ⟨b, off + 1, none⟩ = some (.int .i64 p) := hc2
            have hc1 : True := trivial
            have hbq : Below (w.heap.size + 1) W (wr.drewN nq) := below_drewN hb _
            have hbwq : Below w.heap.size w (wr.drewN nq) := below_drewN hbw _
            obtain ⟨_, e1⟩ := hsl.out _ hbq
            generalize wr.drewN nq = wq at hbq hbwq e1 hc1 hc2 ⊢
            go_wp2_with fail
            refine (in_any _ _ _ _).mono ?_
            rintro e w' ⟨rfl, rfl⟩
            cases hp : inR 0 2 p with
            | false =>
              have HH := Lib.hid (HP.out hp)
              go_wp2
              go_ret2
              exact ⟨ret_two (by rw [check_tab c HL.out HZ.out (by rw [HT.out, HH.out]; simp), HT.out, HH.out] <;> rfl), hbwq⟩
            | true =>
              have HH := Lib.hid (HO.out hp)
              clear hp hi
              go_wp2
              go_roundw
              case rel => exact ⟨1, by omega, by go_num, hbq, HH.out.symm⟩
              case measure => simp [intOf]; omega
          · have hj : j < c.tab.length := by omega
            obtain ⟨b', off', hbo, _, hd1, _⟩ := hc0.out j hj
            simp only [Option.some.injEq, Addr.mk.injEq, and_true] at hbo
            obtain ⟨rfl, rfl⟩ := hbo
            rw [← hbw.cell (p := ⟨b, _, none⟩) hbl] at hd1
            have q0 : decide ((0 : Int) < (j : Int) + 1) = true := by simp <;> omega
            have q1 : (0 : Int) ≤ (j : Int) + 1 := by omega
            have q2 : (j : Int) + 1 < (c.tab.length : Int) := by omega
            have q3 : (0 : Int) ≤ (j : Int) := by omega
            have q4 : (j : Int) < (c.tab.length : Int) := by omega
            have q5 : IntKind.i64.wrap ((j : Int) + 1 - 1) = (j : Int) := (IntWalk.i64_in ((j : Int) + 1 - 1) ⟨by omega, by omega⟩).trans (by omega)
            by_cases hle : c.tab[j + 1].1 ≤ c.tab[j].1
            · have HH := Lib.hid (rhead_late c.tab j hlt hle)
              generalize c.tab[j + 1] = r at hc1 hc2 hi hle
              generalize c.tab[j] = r' at hd1 hle
              obtain ⟨t, p⟩ := r
              obtain ⟨t', p'⟩ := r'
              dsimp only at hc1 hc2 hi hd1 hle
              go_wp2_with fail
              go_quiet ((go_at_call 62; exact Calls.quiet_of_same (in_quiet _ _ _ _)))
              go_wp2
              go_ret2
              exact ⟨ret_two (by rw [check_tab c HL.out HZ.out (by rw [HT.out, ← HF.out, HH.out]; simp), HT.out, ← HF.out, HH.out] <;> rfl), below_drewN hbw _⟩
            have hgt : c.tab[j].1 < c.tab[j + 1].1 := by omega
            have HP := Lib.hid (rhead_phase c.tab j hlt hi hgt)
            have HO := Lib.hid (rhead_on c.tab j hlt hi hgt)
            clear hle
            generalize c.tab[j + 1] = r at hc1 hc2 hi hgt HP HO
            generalize c.tab[j] = r' at hd1 hgt HP HO
            obtain ⟨t, p⟩ := r
            obtain ⟨t', p'⟩ := r'
            dsimp only at hc1 hc2 hi hd1 hgt
            go_wp2_with fail
            go_quiet ((go_at_call 62; exact Calls.quiet_of_same (in_quiet _ _ _ _)))
            clear hc1 hd1 q5
            have hc1 : True := trivial
            have hc2 : (wr.drewN nq).cell? ⟨b, off + (j + 1) * 2 + 1, none⟩ = some (.int .i64 p) := hc2
            have hbq : Below (w.heap.size + 1) W (wr.drewN nq) := below_drewN hb _
            have hbwq : Below w.heap.size w (wr.drewN nq) := below_drewN hbw _
            obtain ⟨_, e1⟩ := hsl.out _ hbq
            generalize wr.drewN nq = wq at hbq hbwq e1 hc1 hc2 ⊢
            go_wp2_with fail
            refine (in_any _ _ _ _).mono ?_
            rintro e w' ⟨rfl, rfl⟩
            cases hp : inR 0 2 p with
            | false =>
              have HH := Lib.hid (HP.out hp)
              go_wp2
              go_ret2
              exact ⟨ret_two (by rw [check_tab c HL.out HZ.out (by rw [HT.out, ← HF.out, HH.out]; simp), HT.out, ← HF.out, HH.out] <;> rfl), hbwq⟩
            | true =>
              have HH := Lib.hid (HO.out hp)
              clear hp hi
              go_wp2
              go_roundw
              case rel => exact ⟨j + 1 + 1, by omega, by go_num, hbq, by rw [← HH.out, HF.out]⟩
              case measure => simp [intOf]; omega
        · have HTT : Hid ((rtableF c.tab).1 = 0) := by
            have := HF.out
            show (rtableF c.tab).1 = 0
            rw [HT.out, ← this]
            unfold rhead
            rw [List.drop_eq_nil_of_le (by omega)]; rfl
          have HS := Lib.hid (check_last c HL.out HZ.out HTT.out)
          obtain ⟨x2, x3, x4, x5, x6, x7⟩ := hbx.out wr hb
          clear hbw hwr
          have hge : c.tab.length ≤ m := by omega
          clear htb HF HZ HTT HT hsl hlt
          go_wp2_with fail
          clear e1
          refine (in_any _ _ _ _).mono ?_
          rintro e w' ⟨rfl, rfl⟩
          cases hr1 : inR 1 1099511627776 c.index with
          | false =>
            have HR := Lib.hid (show restR c = 9 by simp [restR, hr1])
            go_wp2
            go_ret2
            exact ⟨ret_two (by rw [HS.out, HR.out]), hba.out.trans (hb.mono (Nat.le_succ _))⟩
          | true =>
          have H1 := Lib.hid hr1
          clear hr1
          go_wp2_with fail
          refine wp_loop_rounds 4 ?_
          rw [rounds_succ]
          go_wp2_with fail
          have z0 : decide ((0 : Int) < 0) = false := by decide
          have z1 : decide ((0 : Int) < 1) = true := by decide
          have z2 : decide ((0 : Int) < 2) = true := by decide
          cases hf0 : inR 1 9999 c.f0 with
          | false =>
            have HR := Lib.hid (show restR c = 9 by simp [restR, fallsF, hf0])
            go_quiet ((go_at_call 62; exact Calls.quiet_of_same (in_quiet _ _ _ _)))
            go_wp2
            go_ret2
            exact ⟨ret_two (by rw [HS.out, HR.out]), hba.out.trans ((below_drewN hb _).mono (Nat.le_succ _))⟩
          | true =>
          go_quiet ((go_at_call 62; exact Calls.quiet_of_same (in_quiet _ _ _ _)))
          have hb1 := below_drewN hb nq
          clear x2 x3 x4 x5 x6 x7 hb
          generalize wr.drewN nq = wr1 at hb1 ⊢
          obtain ⟨x2, x3, x4, x5, x6, x7⟩ := hbx.out wr1 hb1
          go_wp2_with fail
          rw [rounds_succ]
          go_wp2_with fail
          have HF0 := Lib.hid hf0
          clear hf0
          cases hf1 : inR 1 9999 c.f1 with
          | false =>
            have HR := Lib.hid (show restR c = 9 by simp [restR, fallsF, hf1])
            go_quiet ((go_at_call 62; exact Calls.quiet_of_same (in_quiet _ _ _ _)))
            go_wp2
            go_ret2
            exact ⟨ret_two (by rw [HS.out, HR.out]), hba.out.trans ((below_drewN hb1 _).mono (Nat.le_succ _))⟩
          | true =>
          by_cases hl1 : c.f1 ≤ c.f0
          · have HR := Lib.hid (show restR c = 9 by have : ¬ c.f0 < c.f1 := by omega
                                                    simp [restR, fallsF, this])
            go_quiet ((go_at_call 62; exact Calls.quiet_of_same (in_quiet _ _ _ _)))
            go_wp2
            go_ret2
            exact ⟨ret_two (by rw [HS.out, HR.out]), hba.out.trans ((below_drewN hb1 _).mono (Nat.le_succ _))⟩
          have hg1 : c.f0 < c.f1 := by omega
          clear hl1
          go_quiet ((go_at_call 62; exact Calls.quiet_of_same (in_quiet _ _ _ _)))
          have hb2 := below_drewN hb1 nq
          clear x2 x3 x4 x5 x6 x7 hb1
          generalize wr1.drewN nq = wr2 at hb2 ⊢
          obtain ⟨x2, x3, x4, x5, x6, x7⟩ := hbx.out wr2 hb2
          go_wp2_with fail
          rw [rounds_succ]
          go_wp2_with fail
          have HF1 := Lib.hid hf1
          clear hf1
          have HG1 := Lib.hid hg1
          clear hg1
          cases hf2 : inR 1 9999 c.f2 with
          | false =>
            have HR := Lib.hid (show restR c = 9 by simp [restR, fallsF, hf2])
            go_quiet ((go_at_call 62; exact Calls.quiet_of_same (in_quiet _ _ _ _)))
            go_wp2
            go_ret2
            exact ⟨ret_two (by rw [HS.out, HR.out]), hba.out.trans ((below_drewN hb2 _).mono (Nat.le_succ _))⟩
          | true =>
          by_cases hl2 : c.f2 ≤ c.f1
          · have HR := Lib.hid (show restR c = 9 by have : ¬ c.f1 < c.f2 := by omega
                                                    simp [restR, fallsF, this])
            go_quiet ((go_at_call 62; exact Calls.quiet_of_same (in_quiet _ _ _ _)))
            go_wp2
            go_ret2
            exact ⟨ret_two (by rw [HS.out, HR.out]), hba.out.trans ((below_drewN hb2 _).mono (Nat.le_succ _))⟩
          have hg2 : c.f1 < c.f2 := by omega
          clear hl2
          go_quiet ((go_at_call 62; exact Calls.quiet_of_same (in_quiet _ _ _ _)))
          have hb3 := below_drewN hb2 nq
          clear x2 x3 x4 x5 x6 x7 hb2
          generalize wr2.drewN nq = wr3 at hb3 ⊢
          obtain ⟨x2, x3, x4, x5, x6, x7⟩ := hbx.out wr3 hb3
          go_wp2_with fail
          rw [rounds_succ]
          go_wp2_with fail
          have HF2 := Lib.hid hf2
          clear hf2
          have HG2 := Lib.hid hg2
          clear hg2
          refine (ticks_any _ _).mono ?_
          rintro e w' ⟨rfl, rfl⟩
          cases hh0 : inR 1 1099511627776 c.h0 with
          | false =>
            have HR := Lib.hid (show restR c = 9 by simp [restR, hh0])
            go_wp2
            go_ret2
            exact ⟨ret_two (by rw [HS.out, HR.out]), hba.out.trans (hb3.mono (Nat.le_succ _))⟩
          | true =>
          have HH0 := Lib.hid hh0
          clear hh0
          go_wp2_with fail
          refine (ticks_any _ _).mono ?_
          rintro e w' ⟨rfl, rfl⟩
          cases hh1 : inR 1 1099511627776 c.h1 with
          | false =>
            have HR := Lib.hid (show restR c = 9 by simp [restR, hh1])
            go_wp2
            go_ret2
            exact ⟨ret_two (by rw [HS.out, HR.out]), hba.out.trans (hb3.mono (Nat.le_succ _))⟩
          | true =>
          have HH1 := Lib.hid hh1
          clear hh1
          have HR := Lib.hid (show restR c = 0 by have a1 := H1.out; have a2 := HF0.out; have a3 := HF1.out; have a4 := HF2.out; have a5 := HG1.out; have a6 := HG2.out; have a7 := HH0.out; have a8 := HH1.out; simp [restR, fallsF, a1, a2, a3, a4, a5, a6, a7, a8])
          go_wp2
          go_ret2
          exact ⟨ret_two (by rw [HS.out, HR.out]), hba.out.trans (hb3.mono (Nat.le_succ _))⟩
end Go.Proofs.YtmkcooamgojbpaaGreatDoor.RefCheck
