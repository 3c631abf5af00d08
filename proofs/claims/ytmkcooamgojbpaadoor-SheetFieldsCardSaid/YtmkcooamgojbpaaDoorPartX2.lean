/- Parts of the proof: texts of this claim alone. -/
import Derived.Test.YtmkcooamgojbpaaDoorPart17
import Derived.Test.YtmkcooamgojbpaaDoorPart21
import Derived.Test.YtmkcooamgojbpaaDoorPart20
import Derived.Test.YtmkcooamgojbpaaDoorPart4
import Derived.Recover
import Derived.Deep.RegionHeld3
import Derived.Deep.DrawnRows
import Derived.Test.YtmkcooamgojbpaaDoorPart6
import Derived.Test.YtmkcooamgojbpaaDoorPart7
import Derived.Test.YtmkcooamgojbpaaDoorPart3
import Derived.Test.YtmkcooamgojbpaaDoorPart22
/- damperref40.Fields. -/
namespace Go.Proofs.YtmkcooamgojbpaaDoor.Sheet
open Go.RowKit Go.Proofs.YtmkcooamgojbpaaDoor.Kit Go.Proofs.YtmkcooamgojbpaaDoor.Blk Go.Proofs.YtmkcooamgojbpaaDoor.Words Go.Proofs.YtmkcooamgojbpaaDoor.Octets Go.Proofs.YtmkcooamgojbpaaDoor.Symbol
attribute [local go_sem ↓] Go.wp_at_zero Go.wp_at_succ
set_option linter.unusedVariables false

set_option maxRecDepth 20000 in
theorem rfields_any (s : Sym) (w : World) :
    Calls Tryd.prog 24 #[.agg s.cells] w fun e w' => ∃ g, e = .returned (.slice (some ⟨g, 0, none⟩) 16 16) ∧ Blk w' g s.cells 2 ∧ Below w.heap.size w w' := by
  have HX := Lib.hid (Blk.new w s.cells 29 w.heap.size rfl)
  have HB := Lib.hid ((Below.refl w.heap.size w).alloc (Nat.le_refl _) (.cells s.cells 29))
  unfold Sym.cells at HX HB ⊢
  go_enter Tryd.func24, Tryd.ntmps24
  go_upto_region 1 with fail
  change Code.wp _ _ _ _ (w.alloc (.cells s.cells 29))
  change Hid (Blk (w.alloc (.cells s.cells 29)) _ _ _) at HX
  change Hid (Below _ _ (w.alloc (.cells s.cells 29))) at HB
  generalize w.alloc (.cells s.cells 29) = w1 at HX HB ⊢
  have c0 := HX.out.cell 0 rfl
  have c1 := HX.out.cell 1 rfl
  have c2 := HX.out.cell 2 rfl
  have c3 := HX.out.cell 3 rfl
  have c4 := HX.out.cell 4 rfl
  have c5 := HX.out.cell 5 rfl
  have c6 := HX.out.cell 6 rfl
  have c7 := HX.out.cell 7 rfl
  have c8 := HX.out.cell 8 rfl
  have c9 := HX.out.cell 9 rfl
  have c10 := HX.out.cell 10 rfl
  have c11 := HX.out.cell 11 rfl
  have c12 := HX.out.cell 12 rfl
  have c13 := HX.out.cell 13 rfl
  have c14 := HX.out.cell 14 rfl
  have c15 := HX.out.cell 15 rfl
  go_wp2_with fail
  go_ret
  exact ⟨_, rfl, Blk.new _ _ _ _ rfl, HB.out.alloc HB.out.size _⟩
end Go.Proofs.YtmkcooamgojbpaaDoor.Sheet
