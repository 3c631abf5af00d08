/- report.number: a number's text, by a step's line. -/
import Derived.Test.YtmkcooamgojbpaaDoorWLine
import Derived.Test.YtmkcooamgojbpaaDoorRepF
namespace Go.Proofs.YtmkcooamgojbpaaDoor.Lines
open Go.RowKit Go.Proofs.YtmkcooamgojbpaaDoor.Kit Go.Proofs.YtmkcooamgojbpaaDoor.Blk Go.Proofs.YtmkcooamgojbpaaDoor.Dec Go.Proofs.YtmkcooamgojbpaaDoor.Words Go.Proofs.YtmkcooamgojbpaaDoor.Octets
attribute [local go_sem ↓] Go.wp_at_zero Go.wp_at_succ
set_option linter.unusedVariables false

/-- The library's variable MaxLen holds some integer. -/
def MX (w : World) : Prop := ∃ m, w.cell? ⟨0, 0, none⟩ = some (.int .i64 m)
theorem MX.below {w w' : World} {n : Nat} (h : MX w) (hb : Below w.heap.size w w') : MX w' := by
  obtain ⟨m, hm⟩ := h
  exact ⟨m, by rw [hb.cell (p := ⟨0, 0, none⟩) (World.block_lt_of_cell? _ _ hm)]; exact hm⟩
theorem cut_at {b : UInt8} {w : List UInt8} (h : b ∉ w) (m : List UInt8) : Lib.cut (w ++ b :: m) [b] = (w, m, true) := by
  unfold Lib.cut
  rw [index_app h]
  simp
theorem cut_none {b : UInt8} {l : List UInt8} (h : b ∉ l) : Lib.cut l [b] = (l, [], false) := by
  unfold Lib.cut
  rw [index_miss h]
  simp
theorem tick_free : (32 : UInt8) ∉ ([116, 105, 99, 107] : List UInt8) := by decide
/-- strings.Cut at one byte. -/
theorem cut_any (l : List UInt8) (b : UInt8) (w : World) (hm : MX w) (hl : l.length ≤ 100000) :
    Calls Tryd.prog 64 #[.string (strB l), .string ⟨#[b]⟩] w fun e w' => e = .returned (.tuple #[.string (strB (Lib.cut l [b]).1), .string (strB (Lib.cut l [b]).2.1), .bool (Lib.cut l [b]).2.2]) ∧ ∃ n, w' = w.drewN n := by
  obtain ⟨m, hm⟩ := hm
  have h := Shelf.strings_Cut (strB l) ⟨#[b]⟩ m w (by rw [strB_size]; omega) hm
  rw [strB_list, show (⟨#[b]⟩ : ByteArray).data.toList = [b] from rfl] at h
  exact h
set_option maxRecDepth 20000 in
theorem number_any (n : Int) (h0 : -9223372036854775808 ≤ n) (h1 : n ≤ 9223372036854775807) (w : World) (hm : MX w) :
    Calls Tryd.prog 100 #[.int .i64 n] w fun e w' => e = .returned (.string (strB (decB n))) ∧ Below w.heap.size w w' := by
  have HM := Lib.hid hm
  have hlen := dec_len h0 h1
  clear hm
  go_enter Tryd.func100, Tryd.ntmps100
  go_wp2_with fail
  refine (line_tick n h0 h1 w).mono ?_
  rintro e w1 ⟨rfl, hb⟩
  have HB := Lib.hid hb
  have HC := Lib.hid (cut_any ([116, 105, 99, 107] ++ 32 :: decB n) 32 w1 (HM.out.below (n := 0) hb) (by simp; omega))
  rw [cut_at tick_free] at HC
  clear hb
  go_wp2_with fail
  refine HC.out.mono ?_
  rintro e w2 ⟨rfl, k, rfl⟩
  have HB2 := Lib.hid (HB.out.drewN k)
  go_wp2_with fail
  go_ret
  exact ⟨rfl, HB2.out⟩
end Go.Proofs.YtmkcooamgojbpaaDoor.Lines
