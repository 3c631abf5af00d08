/- damperref35.Line at a tick; damperref36.text. -/
import Derived.Test.YtmkcooamgojbpaaDoorRDecimal
namespace Go.Proofs.YtmkcooamgojbpaaDoor.Lines
open Go.RowKit Go.Proofs.YtmkcooamgojbpaaDoor.Kit Go.Proofs.YtmkcooamgojbpaaDoor.Blk Go.Proofs.YtmkcooamgojbpaaDoor.Dec Go.Proofs.YtmkcooamgojbpaaDoor.Words Go.Proofs.YtmkcooamgojbpaaDoor.Octets
attribute [local go_sem ↓] Go.wp_at_zero Go.wp_at_succ
set_option linter.unusedVariables false

set_option maxRecDepth 20000 in
set_option maxHeartbeats 2000000 in
theorem rline_tick (n : Int) (h0 : -9223372036854775808 ≤ n) (h1 : n ≤ 9223372036854775807) (w : World) :
    Calls Tryd.prog 53 #[.agg #[.int .i64 2, .int .i64 0, .int .i64 n, .slice none 0 0]] w (LineIs (some ([116, 105, 99, 107] ++ 32 :: decB n)) w) := by
  have HS := Lib.hid (show (⟨#[116, 105, 99, 107, 32]⟩ : ByteArray) ++ strB (decB n) = strB ([116, 105, 99, 107] ++ 32 :: decB n) from strB_app [116, 105, 99, 107, 32] _)
  have hz : (strB (decB n)).size ≤ 100 := by
    rw [strB_size]
    have := dec_len h0 h1
    omega
  have HR := Lib.hid (show rightZ 2 0 n 0 = true from rfl)
  go_enter Tryd.func53, Tryd.ntmps53
  go_wp2_with fail
  refine (rsright_any 2 0 n none 0 0 _).mono ?_
  rintro e w1 ⟨rfl, hb⟩
  have HB := Lib.hid (((Below.refl w.heap.size w).alloc (Nat.le_refl _) (.cells (stepV 2 0 n none 0 0) 42)).trans (hb.mono (by simp)))
  have HX := Lib.hid ((Blk.new w (stepV 2 0 n none 0 0) 42 w.heap.size rfl).below hb (by simp))
  clear hb
  rw [HR.out]
  have c0 : w1.cell? ⟨w.heap.size, 0, none⟩ = some (.int .i64 2) := HX.out.cell 0 rfl
  have c2 : w1.cell? ⟨w.heap.size, 2, none⟩ = some (.int .i64 n) := HX.out.cell 2 rfl
  go_wp2_with fail
  refine (rdecimal_any n h0 h1 w1).mono ?_
  rintro e w2 ⟨rfl, hb⟩
  have HB2 := Lib.hid (HB.out.trans (hb.mono HB.out.size))
  clear hb c0 c2
  go_wp2_with fail
  go_ret2
  refine ⟨?_, HB2.out⟩
  show Ending.returned (.tuple #[.string ((⟨#[116, 105, 99, 107, 32]⟩ : ByteArray) ++ strB (decB n)), _]) = _
  rw [HS.out]
  rfl
theorem drop_tick (d : List UInt8) : ([116, 105, 99, 107] ++ 32 :: d : List UInt8).drop 5 = d := rfl
set_option maxRecDepth 20000 in
set_option maxHeartbeats 2000000 in
theorem text_any (n : Int) (h0 : -9223372036854775808 ≤ n) (h1 : n ≤ 9223372036854775807) (w : World) :
    Calls Tryd.prog 103 #[.int .i64 n] w fun e w' => e = .returned (.string (strB (decB n))) ∧ Below w.heap.size w w' := by
  have hl := dec_len h0 h1
  go_enter Tryd.func103, Tryd.ntmps103
  go_wp2_with fail
  refine (rline_tick n h0 h1 w).mono ?_
  rintro e w1 ⟨rfl, hb⟩
  have HB := Lib.hid hb
  clear hb
  have z1 : (strB ([116, 105, 99, 107] ++ 32 :: decB n)).size = (decB n).length + 5 := by rw [strB_size]; simp
  have z2 : (strB ([116, 105, 99, 107] ++ 32 :: decB n)).extract 5 ((decB n).length + 5) = strB (decB n) := by
    apply ByteArray.ext
    simp [strB]
  simp only [Option.getD_some]
  generalize strB ([116, 105, 99, 107] ++ 32 :: decB n) = S at z1 z2 ⊢
  go_wp2_with fail
  go_ret
  exact ⟨rfl, HB.out⟩
end Go.Proofs.YtmkcooamgojbpaaDoor.Lines
