/- Parts of the proof: ShNames. -/
import Derived.Test.YtmkcooamgojbpaaGreatDoorPart2
import Derived.Deep.QuietTactic
import Derived.Deep.DeepCutAuto
import Derived.Deep.CutBlock
import Derived.Deep.DrawnRows
import Derived.WalkMore
import Derived.Test.YtmkcooamgojbpaaGreatDoorPart4
import Derived.Test.YtmkcooamgojbpaaGreatDoorPart6

/- sheet.names, sheet.phases, Names of both. -/
namespace Go.Proofs.YtmkcooamgojbpaaGreatDoor.Sheet
open Go.RowKit Go.Proofs.YtmkcooamgojbpaaGreatDoor.Kit Go.Proofs.YtmkcooamgojbpaaGreatDoor.Blk Go.Proofs.YtmkcooamgojbpaaGreatDoor.Words
attribute [local go_sem ↓] Go.wp_at_zero Go.wp_at_succ
set_option linter.unusedVariables false

def nameL : List ByteArray := [⟨#[103, 114, 105, 100]⟩, ⟨#[114, 101, 102]⟩, ⟨#[115, 116, 97, 116, 105, 99]⟩, ⟨#[100, 121, 110, 97, 109, 105, 99]⟩, ⟨#[119, 105, 110, 100, 111, 119]⟩, ⟨#[109, 111, 118, 101]⟩, ⟨#[108, 105, 109, 105, 116]⟩, ⟨#[112, 97, 117, 115, 101]⟩, ⟨#[101, 120, 116]⟩, ⟨#[109, 97, 120, 101, 120, 116]⟩, ⟨#[99, 111, 108, 108, 97, 114]⟩, ⟨#[119, 105, 100, 101, 110]⟩, ⟨#[115, 101, 108, 102]⟩, ⟨#[115, 108, 111, 116, 115]⟩, ⟨#[108, 101, 118, 101, 108, 115]⟩, ⟨#[115, 104, 111, 114, 116]⟩]
def phaseL : List ByteArray := [⟨#[99, 108, 111, 115, 101, 100]⟩, ⟨#[111, 112, 101, 110, 105, 110, 103]⟩, ⟨#[99, 111, 110, 116, 105, 110, 117, 111, 117, 115]⟩]
def nameA : Array Value := #[.string ⟨#[103, 114, 105, 100]⟩, .string ⟨#[114, 101, 102]⟩, .string ⟨#[115, 116, 97, 116, 105, 99]⟩, .string ⟨#[100, 121, 110, 97, 109, 105, 99]⟩, .string ⟨#[119, 105, 110, 100, 111, 119]⟩, .string ⟨#[109, 111, 118, 101]⟩, .string ⟨#[108, 105, 109, 105, 116]⟩, .string ⟨#[112, 97, 117, 115, 101]⟩, .string ⟨#[101, 120, 116]⟩, .string ⟨#[109, 97, 120, 101, 120, 116]⟩, .string ⟨#[99, 111, 108, 108, 97, 114]⟩, .string ⟨#[119, 105, 100, 101, 110]⟩, .string ⟨#[115, 101, 108, 102]⟩, .string ⟨#[115, 108, 111, 116, 115]⟩, .string ⟨#[108, 101, 118, 101, 108, 115]⟩, .string ⟨#[115, 104, 111, 114, 116]⟩]
def phaseA : Array Value := #[.string ⟨#[99, 108, 111, 115, 101, 100]⟩, .string ⟨#[111, 112, 101, 110, 105, 110, 103]⟩, .string ⟨#[99, 111, 110, 116, 105, 110, 117, 111, 117, 115]⟩]
theorem results_blk {P : Program} {fn : Func} {p : Tmp} {ty T : TypeId} {tmps : Array Value} {w : World} {B : Nat} {cs : Array Value} {d : TypeDesc} (h : fn.results = #[.cell p ty]) (hp : tmps.getD p undef = .pointer (some ⟨B, 0, none⟩)) (hb : Blk w B cs T)
    (hu : P.underlying ty = some d) (hd : d.isRow = true) (hi : (P.info? ty).map (·.size) = some cs.size) : (results fn tmps).run P w = .ok (.agg cs) w := by
  have hp' : tmps[p]?.getD undef = .pointer (some ⟨B, 0, none⟩) := by simpa using hp
  have hl := run_loadVar_mid w B 0 ty cs.toList d hb.range hu hd (by simpa using hi)
  simp [results, h, hp', asAddr, hl]
set_option maxRecDepth 20000 in
theorem names_any (w : World) : Calls Tryz.prog 54 #[] w fun e w' => e = .returned (.agg nameA) ∧ Below w.heap.size w w' := by
  have HX := Lib.hid (Blk.new w #[.string ⟨#[]⟩, .string ⟨#[]⟩, .string ⟨#[]⟩, .string ⟨#[]⟩, .string ⟨#[]⟩, .string ⟨#[]⟩, .string ⟨#[]⟩, .string ⟨#[]⟩, .string ⟨#[]⟩, .string ⟨#[]⟩, .string ⟨#[]⟩, .string ⟨#[]⟩, .string ⟨#[]⟩, .string ⟨#[]⟩, .string ⟨#[]⟩, .string ⟨#[]⟩] 103 w.heap.size rfl)
  have HB := Lib.hid ((Below.refl w.heap.size w).alloc (Nat.le_refl _) (.cells #[.string ⟨#[]⟩, .string ⟨#[]⟩, .string ⟨#[]⟩, .string ⟨#[]⟩, .string ⟨#[]⟩, .string ⟨#[]⟩, .string ⟨#[]⟩, .string ⟨#[]⟩, .string ⟨#[]⟩, .string ⟨#[]⟩, .string ⟨#[]⟩, .string ⟨#[]⟩, .string ⟨#[]⟩, .string ⟨#[]⟩, .string ⟨#[]⟩, .string ⟨#[]⟩] 103))
  go_enter Tryz.func54, Tryz.ntmps54
  go_upto_region 1 with fail
  change Code.wp _ _ _ _ (w.alloc (.cells #[.string ⟨#[]⟩, .string ⟨#[]⟩, .string ⟨#[]⟩, .string ⟨#[]⟩, .string ⟨#[]⟩, .string ⟨#[]⟩, .string ⟨#[]⟩, .string ⟨#[]⟩, .string ⟨#[]⟩, .string ⟨#[]⟩, .string ⟨#[]⟩, .string ⟨#[]⟩, .string ⟨#[]⟩, .string ⟨#[]⟩, .string ⟨#[]⟩, .string ⟨#[]⟩] 103))
  generalize w.alloc (.cells #[.string ⟨#[]⟩, .string ⟨#[]⟩, .string ⟨#[]⟩, .string ⟨#[]⟩, .string ⟨#[]⟩, .string ⟨#[]⟩, .string ⟨#[]⟩, .string ⟨#[]⟩, .string ⟨#[]⟩, .string ⟨#[]⟩, .string ⟨#[]⟩, .string ⟨#[]⟩, .string ⟨#[]⟩, .string ⟨#[]⟩, .string ⟨#[]⟩, .string ⟨#[]⟩] 103) = w1 at HX HB ⊢
  go_wp2_with (refine store_blk (by rfl) 103 _ _ (by rfl) w.heap.size (by rfl) _ nameA 103 HX.out (by rfl) rfl (by kernel_rfl) (by simp [nameA, Value.oneCell']) ?_)
  refine bodyPost_ret (results_blk (cs := nameA) rfl rfl (HX.out.setCells nameA rfl) Tryz.underlying103 rfl (by kernel_rfl)) rfl ⟨rfl, Below.setCells _ _ _ HB.out (Nat.le_refl _)⟩
set_option maxRecDepth 20000 in
theorem phases_any (w : World) : Calls Tryz.prog 22 #[] w fun e w' => e = .returned (.agg phaseA) ∧ Below w.heap.size w w' := by
  have HX := Lib.hid (Blk.new w #[.string ⟨#[]⟩, .string ⟨#[]⟩, .string ⟨#[]⟩] 68 w.heap.size rfl)
  have HB := Lib.hid ((Below.refl w.heap.size w).alloc (Nat.le_refl _) (.cells #[.string ⟨#[]⟩, .string ⟨#[]⟩, .string ⟨#[]⟩] 68))
  go_enter Tryz.func22, Tryz.ntmps22
  go_upto_region 1 with fail
  change Code.wp _ _ _ _ (w.alloc (.cells #[.string ⟨#[]⟩, .string ⟨#[]⟩, .string ⟨#[]⟩] 68))
  generalize w.alloc (.cells #[.string ⟨#[]⟩, .string ⟨#[]⟩, .string ⟨#[]⟩] 68) = w1 at HX HB ⊢
  go_wp2_with (refine store_blk (by rfl) 68 _ _ (by rfl) w.heap.size (by rfl) _ phaseA 68 HX.out (by rfl) rfl (by kernel_rfl) (by simp [phaseA, Value.oneCell']) ?_)
  refine bodyPost_ret (results_blk (cs := phaseA) rfl rfl (HX.out.setCells phaseA rfl) Tryz.underlying68 rfl (by kernel_rfl)) rfl ⟨rfl, Below.setCells _ _ _ HB.out (Nat.le_refl _)⟩
theorem own_base {W : World} {N M T k : Nat} {v : Value} {n : Nat} {xs : List Value} (h : W.ownsRow M T k v n xs) (hN : N ≤ M) : W.ownsRow N T k v n xs :=
  ⟨h.1, h.2.imp id fun ⟨g, cap, cur, h1, h2, h3⟩ => ⟨g, cap, cur, h1, Nat.le_trans hN h2, h3⟩⟩
theorem name_at (B : Nat) (w : World) (h : Blk w B nameA 103) : ∀ j, j < nameL.length → w.cell? ⟨B, 0 + j, none⟩ = some (.string (nameL.getD j ByteArray.empty)) := by
  intro j hj
  rw [Nat.zero_add]
  have hj : j < 16 := hj
  have : j = 0 ∨ j = 1 ∨ j = 2 ∨ j = 3 ∨ j = 4 ∨ j = 5 ∨ j = 6 ∨ j = 7 ∨ j = 8 ∨ j = 9 ∨ j = 10 ∨ j = 11 ∨ j = 12 ∨ j = 13 ∨ j = 14 ∨ j = 15 := by omega
  rcases this with rfl | rfl | rfl | rfl | rfl | rfl | rfl | rfl | rfl | rfl | rfl | rfl | rfl | rfl | rfl | rfl <;> exact h.cell _ rfl
/-- The names, as both give them. -/
def NamesIs (w : World) (e : Ending) (w' : World) : Prop := ∃ a c, e = .returned (.slice a 16 c) ∧ w'.ownsRow w.heap.size 9 1 (.slice a 16 c) 16 (nameL.map Value.string) ∧ Below w.heap.size w w'
end Go.Proofs.YtmkcooamgojbpaaGreatDoor.Sheet
