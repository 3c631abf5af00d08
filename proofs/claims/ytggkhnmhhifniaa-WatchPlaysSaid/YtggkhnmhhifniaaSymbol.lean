/- config.Symbol: the fault of a symbol. -/
import Derived.Test.YtggkhnmhhifniaaFix
import Derived.Test.YtggkhnmhhifniaaAll
import Derived.Test.YtggkhnmhhifniaaFirst
namespace Go.Proofs.Ytggkhnmhhifniaa.Symbol
open Go.RowKit Go.Proofs.Ytggkhnmhhifniaa.Kit Go.Proofs.Ytggkhnmhhifniaa.Fix Go.Proofs.Ytggkhnmhhifniaa.All

structure Sym where
  grid : Int
  ref : Int
  static : Int
  dynamic : Int
  window : Int
  move : Int
  limit : Int
  pause : Int
  ext : Int
  maxExt : Int
  collar : Int
  widen : Int
  self : Int
  slots : Int
  levels : Int
  short : Int

def Sym.vals (s : Sym) : List Int := [s.grid, s.ref, s.static, s.dynamic, s.window, s.move, s.limit, s.pause, s.ext, s.maxExt, s.collar, s.widen, s.self, s.slots, s.levels, s.short]
def Sym.cells (s : Sym) : Array Value := #[.int .i64 s.grid, .int .i64 s.ref, .int .i64 s.static, .int .i64 s.dynamic, .int .i64 s.window, .int .i64 s.move, .int .i64 s.limit, .int .i64 s.pause, .int .i64 s.ext, .int .i64 s.maxExt, .int .i64 s.collar, .int .i64 s.widen, .int .i64 s.self, .int .i64 s.slots, .int .i64 s.levels, .int .i64 s.short]

/-- A block whose first cells are a symbol's. -/
def SymBox (w : World) (p : Nat) (s : Sym) : Prop := ∀ (j : Nat) (v : Value), s.cells[j]? = some v → w.cell? ⟨p, j, none⟩ = some v
theorem SymBox.below {w w' : World} {p : Nat} {s : Sym} (h : SymBox w p s) (hp : p < w.heap.size) (hb : Below w.heap.size w w') : SymBox w' p s := by
  intro j v hv
  rw [hb.cell (p := ⟨p, j, none⟩) hp]
  exact h j v hv

def r1 (s : Sym) : Bool := allIn 1 1099511627776 [s.grid, s.ref]
def r2 (s : Sym) : Bool := price s.ref s.grid == 0
def r3 (s : Sym) : Bool := allIn 0 9999 [s.static, s.dynamic, s.move, s.collar, s.widen, s.short]
def r4 (s : Sym) : Bool := allIn 1 1099511627776 [s.window, s.limit, s.pause, s.ext]
def r5 (s : Sym) : Bool := allIn 0 10 [s.maxExt] && allIn 0 3 [s.self]
def r6 (s : Sym) : Bool := allIn 1 500 [s.slots] && allIn 1 200 [s.levels]
def r7 (s : Sym) : Bool := decide (s.dynamic ≤ s.static)

theorem c1 (p : Nat) (s : Sym) (w : World) (h : SymBox w p s) :
    Calls Try.prog 80 #[.pointer (some ⟨p, 0, none⟩)] w fun e w' => e = .returned (.bool (r1 s)) ∧ Below w.heap.size w w' := by
  have h0 : w.cell? ⟨p, 0, none⟩ = some (.int .i64 s.grid) := h 0 _ rfl
  have h1 : w.cell? ⟨p, 1, none⟩ = some (.int .i64 s.ref) := h 1 _ rfl
  go_enter Try.func80, Try.ntmps80
  go_wp2_with fail
  refine (all_any _ _ [s.grid, s.ref] _ _ _ (by simp [maxLen]) (nums_new _ _ _ _ _ rfl rfl)).mono ?_
  rintro e w' ⟨rfl, hb⟩
  go_wp2
  go_ret
  exact ⟨rfl, ((Below.refl _ _).alloc (Nat.le_refl _) _).trans (hb.mono (by simp))⟩

theorem c2 (p : Nat) (s : Sym) (w : World) (h : SymBox w p s) :
    Calls Try.prog 81 #[.pointer (some ⟨p, 0, none⟩)] w fun e w' => e = .returned (.bool (r2 s)) ∧ Below w.heap.size w w' := by
  have h0 : w.cell? ⟨p, 0, none⟩ = some (.int .i64 s.grid) := h 0 _ rfl
  have h1 : w.cell? ⟨p, 1, none⟩ = some (.int .i64 s.ref) := h 1 _ rfl
  go_enter Try.func81, Try.ntmps81
  go_wp2_with fail
  refine (price_any _ _ _).mono ?_
  rintro e w' ⟨rfl, rfl⟩
  go_wp2
  go_ret
  exact ⟨rfl, Below.refl _ _⟩

theorem c3 (p : Nat) (s : Sym) (w : World) (h : SymBox w p s) :
    Calls Try.prog 83 #[.pointer (some ⟨p, 0, none⟩)] w fun e w' => e = .returned (.bool (r3 s)) ∧ Below w.heap.size w w' := by
  have h2 : w.cell? ⟨p, 2, none⟩ = some (.int .i64 s.static) := h 2 _ rfl
  have h3 : w.cell? ⟨p, 3, none⟩ = some (.int .i64 s.dynamic) := h 3 _ rfl
  have h5 : w.cell? ⟨p, 5, none⟩ = some (.int .i64 s.move) := h 5 _ rfl
  have h10 : w.cell? ⟨p, 10, none⟩ = some (.int .i64 s.collar) := h 10 _ rfl
  have h11 : w.cell? ⟨p, 11, none⟩ = some (.int .i64 s.widen) := h 11 _ rfl
  have h15 : w.cell? ⟨p, 15, none⟩ = some (.int .i64 s.short) := h 15 _ rfl
  go_enter Try.func83, Try.ntmps83
  go_wp2_with fail
  refine (all_any _ _ [s.static, s.dynamic, s.move, s.collar, s.widen, s.short] _ _ _ (by simp [maxLen]) (nums_new _ _ _ _ _ rfl rfl)).mono ?_
  rintro e w' ⟨rfl, hb⟩
  go_wp2
  go_ret
  exact ⟨rfl, ((Below.refl _ _).alloc (Nat.le_refl _) _).trans (hb.mono (by simp))⟩

theorem c4 (p : Nat) (s : Sym) (w : World) (h : SymBox w p s) :
    Calls Try.prog 84 #[.pointer (some ⟨p, 0, none⟩)] w fun e w' => e = .returned (.bool (r4 s)) ∧ Below w.heap.size w w' := by
  have h4 : w.cell? ⟨p, 4, none⟩ = some (.int .i64 s.window) := h 4 _ rfl
  have h6 : w.cell? ⟨p, 6, none⟩ = some (.int .i64 s.limit) := h 6 _ rfl
  have h7 : w.cell? ⟨p, 7, none⟩ = some (.int .i64 s.pause) := h 7 _ rfl
  have h8 : w.cell? ⟨p, 8, none⟩ = some (.int .i64 s.ext) := h 8 _ rfl
  go_enter Try.func84, Try.ntmps84
  go_wp2_with fail
  refine (all_any _ _ [s.window, s.limit, s.pause, s.ext] _ _ _ (by simp [maxLen]) (nums_new _ _ _ _ _ rfl rfl)).mono ?_
  rintro e w' ⟨rfl, hb⟩
  go_wp2
  go_ret
  exact ⟨rfl, ((Below.refl _ _).alloc (Nat.le_refl _) _).trans (hb.mono (by simp))⟩

theorem c5 (p : Nat) (s : Sym) (w : World) (h : SymBox w p s) (hp : p < w.heap.size) :
    Calls Try.prog 85 #[.pointer (some ⟨p, 0, none⟩)] w fun e w' => e = .returned (.bool (r5 s)) ∧ Below w.heap.size w w' := by
  have h9 : w.cell? ⟨p, 9, none⟩ = some (.int .i64 s.maxExt) := h 9 _ rfl
  have h12 : w.cell? ⟨p, 12, none⟩ = some (.int .i64 s.self) := h 12 _ rfl
  go_enter Try.func85, Try.ntmps85
  go_wp2_with fail
  refine (all_any _ _ [s.maxExt] _ _ _ (by simp [maxLen]) (nums_new _ _ _ _ _ rfl rfl)).mono ?_
  rintro e w' ⟨rfl, hb⟩
  have hb' : Below w.heap.size w w' := ((Below.refl _ _).alloc (Nat.le_refl _) _).trans (hb.mono (by simp))
  rw [← hb'.cell (p := ⟨p, 12, none⟩) hp] at h12
  cases hr : allIn 0 10 [s.maxExt]
  · go_wp2
    go_ret
    exact ⟨by simp [r5, hr], hb'⟩
  · have HR := Lib.hid hr
    clear hr
    go_wp2_with fail
    refine (all_any _ _ [s.self] _ _ _ (by simp [maxLen]) (nums_new _ _ _ _ _ rfl rfl)).mono ?_
    rintro e w2 ⟨rfl, hb2⟩
    go_wp2
    go_ret
    exact ⟨by simp [r5, HR.out], (hb'.alloc hb'.size _).trans (hb2.mono (by have := hb'.size; simp; omega))⟩

theorem c6 (p : Nat) (s : Sym) (w : World) (h : SymBox w p s) (hp : p < w.heap.size) :
    Calls Try.prog 86 #[.pointer (some ⟨p, 0, none⟩)] w fun e w' => e = .returned (.bool (r6 s)) ∧ Below w.heap.size w w' := by
  have h13 : w.cell? ⟨p, 13, none⟩ = some (.int .i64 s.slots) := h 13 _ rfl
  have h14 : w.cell? ⟨p, 14, none⟩ = some (.int .i64 s.levels) := h 14 _ rfl
  go_enter Try.func86, Try.ntmps86
  go_wp2_with fail
  refine (all_any _ _ [s.slots] _ _ _ (by simp [maxLen]) (nums_new _ _ _ _ _ rfl rfl)).mono ?_
  rintro e w' ⟨rfl, hb⟩
  have hb' : Below w.heap.size w w' := ((Below.refl _ _).alloc (Nat.le_refl _) _).trans (hb.mono (by simp))
  rw [← hb'.cell (p := ⟨p, 14, none⟩) hp] at h14
  cases hr : allIn 1 500 [s.slots]
  · go_wp2
    go_ret
    exact ⟨by simp [r6, hr], hb'⟩
  · have HR := Lib.hid hr
    clear hr
    go_wp2_with fail
    refine (all_any _ _ [s.levels] _ _ _ (by simp [maxLen]) (nums_new _ _ _ _ _ rfl rfl)).mono ?_
    rintro e w2 ⟨rfl, hb2⟩
    go_wp2
    go_ret
    exact ⟨by simp [r6, HR.out], (hb'.alloc hb'.size _).trans (hb2.mono (by have := hb'.size; simp; omega))⟩

theorem c7 (p : Nat) (s : Sym) (w : World) (h : SymBox w p s) :
    Calls Try.prog 87 #[.pointer (some ⟨p, 0, none⟩)] w fun e w' => e = .returned (.bool (r7 s)) ∧ Below w.heap.size w w' := by
  have h2 : w.cell? ⟨p, 2, none⟩ = some (.int .i64 s.static) := h 2 _ rfl
  have h3 : w.cell? ⟨p, 3, none⟩ = some (.int .i64 s.dynamic) := h 3 _ rfl
  go_enter Try.func87, Try.ntmps87
  go_wp2
  go_ret
  exact ⟨rfl, Below.refl _ _⟩
end Go.Proofs.Ytggkhnmhhifniaa.Symbol
