/- Parts of the proof: ShNames. -/
import Derived.Test.YtmkcooamgojbpaaDoorPart2
import Derived.Deep.QuietTactic
import Derived.Deep.DeepCutAuto
import Derived.Deep.CutBlock
import Derived.Deep.DrawnRows
import Derived.WalkMore
import Derived.Test.YtmkcooamgojbpaaDoorPart4
import Derived.Test.YtmkcooamgojbpaaDoorPart6

/- sheet.names, sheet.phases, Names of both. -/
namespace Go.Proofs.YtmkcooamgojbpaaDoor.Sheet
open Go.RowKit Go.Proofs.YtmkcooamgojbpaaDoor.Kit Go.Proofs.YtmkcooamgojbpaaDoor.Blk Go.Proofs.YtmkcooamgojbpaaDoor.Words
attribute [local go_sem ↓] Go.wp_at_zero Go.wp_at_succ
set_option linter.unusedVariables false

def nameL : List ByteArray := [⟨#[103, 114, 105, 100]⟩, ⟨#[114, 101, 102]⟩, ⟨#[115, 116, 97, 116, 105, 99]⟩, ⟨#[100, 121, 110, 97, 109, 105, 99]⟩, ⟨#[119, 105, 110, 100, 111, 119]⟩, ⟨#[109, 111, 118, 101]⟩, ⟨#[108, 105, 109, 105, 116]⟩, ⟨#[112, 97, 117, 115, 101]⟩, ⟨#[101, 120, 116]⟩, ⟨#[109, 97, 120, 101, 120, 116]⟩, ⟨#[99, 111, 108, 108, 97, 114]⟩, ⟨#[119, 105, 100, 101, 110]⟩, ⟨#[115, 101, 108, 102]⟩, ⟨#[115, 108, 111, 116, 115]⟩, ⟨#[108, 101, 118, 101, 108, 115]⟩, ⟨#[115, 104, 111, 114, 116]⟩]
def phaseL : List ByteArray := [⟨#[99, 108, 111, 115, 101, 100]⟩, ⟨#[111, 112, 101, 110, 105, 110, 103]⟩, ⟨#[99, 111, 110, 116, 105, 110, 117, 111, 117, 115]⟩]
def nameA : Array Value := #[.string ⟨#[103, 114, 105, 100]⟩, .string ⟨#[114, 101, 102]⟩, .string ⟨#[115, 116, 97, 116, 105, 99]⟩, .string ⟨#[100, 121, 110, 97, 109, 105, 99]⟩, .string ⟨#[119, 105, 110, 100, 111, 119]⟩, .string ⟨#[109, 111, 118, 101]⟩, .string ⟨#[108, 105, 109, 105, 116]⟩, .string ⟨#[112, 97, 117, 115, 101]⟩, .string ⟨#[101, 120, 116]⟩, .string ⟨#[109, 97, 120, 101, 120, 116]⟩, .string ⟨#[99, 111, 108, 108, 97, 114]⟩, .string ⟨#[119, 105, 100, 101, 110]⟩, .string ⟨#[115, 101, 108, 102]⟩, .string ⟨#[115, 108, 111, 116, 115]⟩, .string ⟨#[108, 101, 118, 101, 108, 115]⟩, .string ⟨#[115, 104, 111, 114, 116]⟩]
def phaseA : Array Value := #[.string ⟨#[99, 108, 111, 115, 101, 100]⟩, .string ⟨#[111, 112, 101, 110, 105, 110, 103]⟩, .string ⟨#[99, 111, 110, 116, 105, 110, 117, 111, 117, 115]⟩]
theorem results_blk {P : Program} {fn : Func} {p : Tmp} {ty T : TypeId} {tmps : Array Value} {w : World} {B : Nat} {cs : Array Value} {d : TypeDesc} (h : fn.results = #[.cell p ty]) (hp : tmps.getD p undef = .pointer (some ⟨B, 0, none⟩)) (hb : Blk w B cs T)
    (hu : P.underlying ty = some d) (hd : d.isRow = true) (hi : (P.info? ty).map (·.size) = some cs.size) : (results fn tmps).run P w = .ok (.agg cs) w := by
  have hp' : tmps[p]?.getD undef = .pointer (some ⟨B, 0, none⟩) := by simpa using hp
  have hl := run_loadVar_mid w B 0 ty cs.toList d hb.range hu hd (by simpa using hi)
  simp [results, h, hp', asAddr, hl]
set_option maxRecDepth 20000 in
theorem names_any (w : World) : Calls Tryd.prog 76 #[] w fun e w' => e = .returned (.agg nameA) ∧ Below w.heap.size w w' := by
  have HX := Lib.hid (Blk.new w #[.string ⟨#[]⟩, .string ⟨#[]⟩, .string ⟨#[]⟩, .string ⟨#[]⟩, .string ⟨#[]⟩, .string ⟨#[]⟩, .string ⟨#[]⟩, .string ⟨#[]⟩, .string ⟨#[]⟩, .string ⟨#[]⟩, .string ⟨#[]⟩, .string ⟨#[]⟩, .string ⟨#[]⟩, .string ⟨#[]⟩, .string ⟨#[]⟩, .string ⟨#[]⟩] 110 w.heap.size rfl)
  have HB := Lib.hid ((Below.refl w.heap.size w).alloc (Nat.le_refl _) (.cells #[.string ⟨#[]⟩, .string ⟨#[]⟩, .string ⟨#[]⟩, .string ⟨#[]⟩, .string ⟨#[]⟩, .string ⟨#[]⟩, .string ⟨#[]⟩, .string ⟨#[]⟩, .string ⟨#[]⟩, .string ⟨#[]⟩, .string ⟨#[]⟩, .string ⟨#[]⟩, .string ⟨#[]⟩, .string ⟨#[]⟩, .string ⟨#[]⟩, .string ⟨#[]⟩] 110))
  go_enter Tryd.func76, Tryd.ntmps76
  go_upto_region 1 with fail
  change Code.wp _ _ _ _ (w.alloc (.cells #[.string ⟨#[]⟩, .string ⟨#[]⟩, .string ⟨#[]⟩, .string ⟨#[]⟩, .string ⟨#[]⟩, .string ⟨#[]⟩, .string ⟨#[]⟩, .string ⟨#[]⟩, .string ⟨#[]⟩, .string ⟨#[]⟩, .string ⟨#[]⟩, .string ⟨#[]⟩, .string ⟨#[]⟩, .string ⟨#[]⟩, .string ⟨#[]⟩, .string ⟨#[]⟩] 110))
  generalize w.alloc (.cells #[.string ⟨#[]⟩, .string ⟨#[]⟩, .string ⟨#[]⟩, .string ⟨#[]⟩, .string ⟨#[]⟩, .string ⟨#[]⟩, .string ⟨#[]⟩, .string ⟨#[]⟩, .string ⟨#[]⟩, .string ⟨#[]⟩, .string ⟨#[]⟩, .string ⟨#[]⟩, .string ⟨#[]⟩, .string ⟨#[]⟩, .string ⟨#[]⟩, .string ⟨#[]⟩] 110) = w1 at HX HB ⊢
  go_wp2_with (refine store_blk (by rfl) 110 _ _ (by rfl) w.heap.size (by rfl) _ nameA 110 HX.out (by rfl) rfl (by kernel_rfl) (by simp [nameA, Value.oneCell']) ?_)
  refine bodyPost_ret (results_blk (cs := nameA) rfl rfl (HX.out.setCells nameA rfl) Tryd.underlying110 rfl (by kernel_rfl)) rfl ⟨rfl, Below.setCells _ _ _ HB.out (Nat.le_refl _)⟩
set_option maxRecDepth 20000 in
theorem phases_any (w : World) : Calls Tryd.prog 70 #[] w fun e w' => e = .returned (.agg phaseA) ∧ Below w.heap.size w w' := by
  have HX := Lib.hid (Blk.new w #[.string ⟨#[]⟩, .string ⟨#[]⟩, .string ⟨#[]⟩] 103 w.heap.size rfl)
  have HB := Lib.hid ((Below.refl w.heap.size w).alloc (Nat.le_refl _) (.cells #[.string ⟨#[]⟩, .string ⟨#[]⟩, .string ⟨#[]⟩] 103))
  go_enter Tryd.func70, Tryd.ntmps70
  go_upto_region 1 with fail
  change Code.wp _ _ _ _ (w.alloc (.cells #[.string ⟨#[]⟩, .string ⟨#[]⟩, .string ⟨#[]⟩] 103))
  generalize w.alloc (.cells #[.string ⟨#[]⟩, .string ⟨#[]⟩, .string ⟨#[]⟩] 103) = w1 at HX HB ⊢
  go_wp2_with (refine store_blk (by rfl) 103 _ _ (by rfl) w.heap.size (by rfl) _ phaseA 103 HX.out (by rfl) rfl (by kernel_rfl) (by simp [phaseA, Value.oneCell']) ?_)
  refine bodyPost_ret (results_blk (cs := phaseA) rfl rfl (HX.out.setCells phaseA rfl) Tryd.underlying103 rfl (by kernel_rfl)) rfl ⟨rfl, Below.setCells _ _ _ HB.out (Nat.le_refl _)⟩
theorem own_base {W : World} {N M T k : Nat} {v : Value} {n : Nat} {xs : List Value} (h : W.ownsRow M T k v n xs) (hN : N ≤ M) : W.ownsRow N T k v n xs :=
  ⟨h.1, h.2.imp id fun ⟨g, cap, cur, h1, h2, h3⟩ => ⟨g, cap, cur, h1, Nat.le_trans hN h2, h3⟩⟩
theorem name_at (B : Nat) (w : World) (h : Blk w B nameA 110) : ∀ j, j < nameL.length → w.cell? ⟨B, 0 + j, none⟩ = some (.string (nameL.getD j ByteArray.empty)) := by
  intro j hj
  rw [Nat.zero_add]
  have hj : j < 16 := hj
  have : j = 0 ∨ j = 1 ∨ j = 2 ∨ j = 3 ∨ j = 4 ∨ j = 5 ∨ j = 6 ∨ j = 7 ∨ j = 8 ∨ j = 9 ∨ j = 10 ∨ j = 11 ∨ j = 12 ∨ j = 13 ∨ j = 14 ∨ j = 15 := by omega
  rcases this with rfl | rfl | rfl | rfl | rfl | rfl | rfl | rfl | rfl | rfl | rfl | rfl | rfl | rfl | rfl | rfl <;> exact h.cell _ rfl
/-- The names, as both give them. -/
def NamesIs (w : World) (e : Ending) (w' : World) : Prop := ∃ a c, e = .returned (.slice a 16 c) ∧ w'.ownsRow w.heap.size 9 1 (.slice a 16 c) 16 (nameL.map Value.string) ∧ Below w.heap.size w w'
set_option maxRecDepth 20000 in
theorem rnames_any (w : World) : Calls Tryd.prog 23 #[] w (NamesIs w) := by
  have HO := Lib.hid (show (w.alloc (.cells nameA 9)).ownsRow w.heap.size 9 1 (.slice (some ⟨w.heap.size, 0, none⟩) 16 16) 16 nameA.toList from World.ownsRow_lit (base := w.heap.size) (size := 1) w nameA 16 (Nat.le_refl _) (by unfold maxLen; decide) rfl)
  have HB := Lib.hid ((Below.refl w.heap.size w).alloc (Nat.le_refl _) (.cells nameA 9))
  unfold nameA at HO HB
  go_enter Tryd.func23, Tryd.ntmps23
  go_wp2_with fail
  go_ret
  exact ⟨_, _, rfl, HO.out, HB.out⟩
set_option maxRecDepth 20000 in
theorem wnames_any (w : World) : Calls Tryd.prog 21 #[] w (NamesIs w) := by
  have HN := Lib.hid (names_any w)
  go_enter Tryd.func21, Tryd.ntmps21
  go_wp2_with fail
  refine HN.out.mono ?_
  rintro e w1 ⟨rfl, hb1⟩
  have HX := Lib.hid (Blk.new w1 nameA 110 w1.heap.size rfl)
  have HB := Lib.hid (hb1.alloc hb1.size (.cells nameA 110))
  have hsz : w.heap.size ≤ w1.heap.size := hb1.size
  have hsz2 : (w1.alloc (.cells nameA 110)).heap.size = w1.heap.size + 1 := by simp
  have HS2 := Lib.hid hsz2
  clear hb1 HN hsz2
  unfold nameA
  go_upto_region 2 with fail
  change Code.wp _ _ _ _ (w1.alloc (.cells nameA 110))
  generalize w1.alloc (.cells nameA 110) = w2 at HX HB HS2 ⊢
  have HC := Lib.hid (Shelf.slices_Clone_string w1.heap.size 0 16 16 nameL w2 (by decide) (by decide) (name_at _ _ HX.out))
  go_wp2_with fail
  refine HC.out.mono ?_
  rintro e w3 ⟨v, rfl, hown, hne, hb3⟩
  obtain ⟨g, cap, rfl, hg, hg2⟩ := World.ownsRow.form hown (by decide)
  have HB3 := Lib.hid (HB.out.trans (hb3.mono HB.out.size))
  have HO := Lib.hid hown
  go_wp2_with fail
  go_ret
  exact ⟨_, _, rfl, own_base (show w3.ownsRow w2.heap.size 9 1 (.slice (some ⟨g, 0, none⟩) 16 cap) 16 (nameL.map Value.string) from HO.out) (by have := HS2.out; omega), HB3.out⟩
end Go.Proofs.YtmkcooamgojbpaaDoor.Sheet
