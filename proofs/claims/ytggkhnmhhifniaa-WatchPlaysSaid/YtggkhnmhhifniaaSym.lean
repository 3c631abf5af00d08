/- config.Symbol: the fault of a symbol, from its seven rules. -/
import Derived.Test.YtggkhnmhhifniaaSymbol
namespace Go.Proofs.Ytggkhnmhhifniaa.Symbol
open Go.RowKit Go.Proofs.Ytggkhnmhhifniaa.Kit

/-- The rules of a symbol, by the fault each has. -/
def symFault (s : Sym) : Int :=
  if !r1 s then 9 else if !r2 s then 8 else if !r3 s then 9 else if !r4 s then 9 else if !r5 s then 9 else if !r6 s then 9 else if !r7 s then 11 else 0

def rules (p : Nat) (s : Sym) : List First.R :=
  [⟨80, #[.pointer (some ⟨p, 0, none⟩)], 9, r1 s⟩, ⟨81, #[.pointer (some ⟨p, 0, none⟩)], 8, r2 s⟩,
   ⟨83, #[.pointer (some ⟨p, 0, none⟩)], 9, r3 s⟩, ⟨84, #[.pointer (some ⟨p, 0, none⟩)], 9, r4 s⟩,
   ⟨85, #[.pointer (some ⟨p, 0, none⟩)], 9, r5 s⟩, ⟨86, #[.pointer (some ⟨p, 0, none⟩)], 9, r6 s⟩,
   ⟨87, #[.pointer (some ⟨p, 0, none⟩)], 11, r7 s⟩]

theorem fault_rules (p : Nat) (s : Sym) : First.fault (rules p s) = symFault s := by
  unfold symFault rules
  simp only [First.fault]
  cases r1 s <;> cases r2 s <;> cases r3 s <;> cases r4 s <;> cases r5 s <;> cases r6 s <;> cases r7 s <;> rfl

theorem lt7 {i : Nat} (h : i < 7) : i = 0 ∨ i = 1 ∨ i = 2 ∨ i = 3 ∨ i = 4 ∨ i = 5 ∨ i = 6 := by omega

theorem box_new (w : World) (n : Nat) (s : Sym) (hn : w.heap.size = n) : SymBox (w.alloc (.cells s.cells 73)) n s :=
  fun _ _ hv => cell_new _ _ _ _ _ _ hn hv

theorem in1 (c : Array Value) (w : World) : (callFunc 80 c).run Try.prog w = .ok (.enter 80 c) w := callFunc_enter Try.func80 (by kernel_rfl) (by kernel_rfl) c w
theorem in2 (c : Array Value) (w : World) : (callFunc 81 c).run Try.prog w = .ok (.enter 81 c) w := callFunc_enter Try.func81 (by kernel_rfl) (by kernel_rfl) c w
theorem in3 (c : Array Value) (w : World) : (callFunc 83 c).run Try.prog w = .ok (.enter 83 c) w := callFunc_enter Try.func83 (by kernel_rfl) (by kernel_rfl) c w
theorem in4 (c : Array Value) (w : World) : (callFunc 84 c).run Try.prog w = .ok (.enter 84 c) w := callFunc_enter Try.func84 (by kernel_rfl) (by kernel_rfl) c w
theorem in5 (c : Array Value) (w : World) : (callFunc 85 c).run Try.prog w = .ok (.enter 85 c) w := callFunc_enter Try.func85 (by kernel_rfl) (by kernel_rfl) c w
theorem in6 (c : Array Value) (w : World) : (callFunc 86 c).run Try.prog w = .ok (.enter 86 c) w := callFunc_enter Try.func86 (by kernel_rfl) (by kernel_rfl) c w
theorem in7 (c : Array Value) (w : World) : (callFunc 87 c).run Try.prog w = .ok (.enter 87 c) w := callFunc_enter Try.func87 (by kernel_rfl) (by kernel_rfl) c w

set_option maxHeartbeats 1000000 in
theorem symbol_any (s : Sym) (w : World) :
    Calls Try.prog 49 #[.agg s.cells] w fun e w' => e = .returned (.int .i64 (symFault s)) ∧ Below w.heap.size w w' := by
  have HB := Lib.hid (box_new w _ s rfl)
  unfold Sym.cells at *
  go_enter Try.func49, Try.ntmps49
  go_wp2_with fail
  have hb0 : Below w.heap.size w _ := ((Below.refl w.heap.size w).alloc (Nat.le_refl _) (.cells #[.int .i64 s.grid, .int .i64 s.ref, .int .i64 s.static, .int .i64 s.dynamic, .int .i64 s.window, .int .i64 s.move, .int .i64 s.limit, .int .i64 s.pause, .int .i64 s.ext, .int .i64 s.maxExt, .int .i64 s.collar, .int .i64 s.widen, .int .i64 s.self, .int .i64 s.slots, .int .i64 s.levels, .int .i64 s.short] 73))
  refine (First.first_any (w.heap.size + 1) 7 (rules w.heap.size s) _ (by simp [rules, maxLen]) (by simp) ?_ ?_ ?_).mono ?_
  · intro i hi
    rcases lt7 hi with rfl | rfl | rfl | rfl | rfl | rfl | rfl <;> exact ⟨cell_new _ _ _ _ _ _ (by simp) rfl, cell_new _ _ _ _ _ _ (by simp) rfl⟩
  · intro i hi
    rcases lt7 hi with rfl | rfl | rfl | rfl | rfl | rfl | rfl
    · exact in1 _
    · exact in2 _
    · exact in3 _
    · exact in4 _
    · exact in5 _
    · exact in6 _
    · exact in7 _
  · intro i hi _ w' hb
    have hsb : SymBox w' w.heap.size s := by
      have h1 := HB.out.below (by simp) (w' := w') ?_
      · exact h1
      · refine Below.trans ?_ (hb.mono (by simp))
        exact (Below.refl _ _).alloc (by simp) _
    have hp : w.heap.size < w'.heap.size := by have := hb.size; simp at this; omega
    rcases lt7 hi with rfl | rfl | rfl | rfl | rfl | rfl | rfl
    · exact c1 _ _ _ hsb
    · exact c2 _ _ _ hsb
    · exact c3 _ _ _ hsb
    · exact c4 _ _ _ hsb
    · exact c5 _ _ _ hsb hp
    · exact c6 _ _ _ hsb hp
    · exact c7 _ _ _ hsb
  · rintro e w' ⟨rfl, hb⟩
    rw [fault_rules]
    go_wp2
    go_ret
    exact ⟨rfl, (hb0.alloc hb0.size _).trans (hb.mono (by simp; omega))⟩
end Go.Proofs.Ytggkhnmhhifniaa.Symbol
