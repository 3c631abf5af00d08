/- report.Line. -/
import Derived.Test.YtmkcooamgojbpaaDoorKindOf
import Derived.Deep.DeepCutAuto
import Derived.Deep.CutBlock
namespace Go.Proofs.YtmkcooamgojbpaaDoor.Reports
open Go.RowKit Go.Proofs.YtmkcooamgojbpaaDoor.Kit Go.Proofs.YtmkcooamgojbpaaDoor.Blk Go.Proofs.YtmkcooamgojbpaaDoor.Dec Go.Proofs.YtmkcooamgojbpaaDoor.Words Go.Proofs.YtmkcooamgojbpaaDoor.Octets Go.Proofs.YtmkcooamgojbpaaDoor.Lines Go.Proofs.YtmkcooamgojbpaaDoor.Msgs Go.Proofs.YtmkcooamgojbpaaDoor.Open
attribute [local go_sem ↓] Go.wp_at_zero Go.wp_at_succ
set_option linter.unusedVariables false

def valsM (m : Msg) (j : Nat) : Int := ([m.seq, m.tick, m.sym, 0, m.id, m.wth, m.price, m.qty, m.code][j]?).getD 0
theorem vals_in {m : Msg} (h : Fits m) (j : Nat) (hj : j < 9) : -9223372036854775808 ≤ valsM m j ∧ valsM m j ≤ 9223372036854775807 := by
  obtain ⟨h1, h2, h3, h4, h5, h6, h7, h8, h9⟩ := h
  simp only [in64] at *
  have : j = 0 ∨ j = 1 ∨ j = 2 ∨ j = 3 ∨ j = 4 ∨ j = 5 ∨ j = 6 ∨ j = 7 ∨ j = 8 := by omega
  rcases this with rfl | rfl | rfl | rfl | rfl | rfl | rfl | rfl | rfl <;> simp [valsM] <;> omega
def nineM (m : Msg) : Array Value := #[.int .i64 m.seq, .int .i64 m.tick, .int .i64 m.sym, .int .i64 0, .int .i64 m.id, .int .i64 m.wth, .int .i64 m.price, .int .i64 m.qty, .int .i64 m.code]
theorem index_at (m : Msg) (k : Nat) (hk : k < 9) : ∀ W, (Instr.index 145 (.agg (nineM m)) (.int .i64 (k : Int))).run Tryd.prog W = .ok (.int .i64 (valsM m k)) W := by
  have : k = 0 ∨ k = 1 ∨ k = 2 ∨ k = 3 ∨ k = 4 ∨ k = 5 ∨ k = 6 ∨ k = 7 ∨ k = 8 := by omega
  intro W
  rcases this with rfl | rfl | rfl | rfl | rfl | rfl | rfl | rfl | rfl <;> kernel_rfl
structure LW (w : World) (m : Msg) (A : Nat) (wr : World) (k : Nat) : Prop where
  box : Blk wr w.heap.size m.cells 62
  arr : ∃ cs, Blk wr A cs 146 ∧ cs.size = 9 ∧ ∀ j, j < k → cs[j]? = some (.string (strB (decB (valsM m j))))
  bel : Below w.heap.size w wr
  ge : w.heap.size < A
section
variable {w wr w1 : World} {m : Msg} {A k : Nat}
theorem LW.below (h : LW w m A wr k) (hb : Below wr.heap.size wr w1) : LW w m A w1 k := by
  obtain ⟨cs, h1, h2, h3⟩ := h.arr
  exact ⟨h.box.below hb h.box.lt, ⟨cs, h1.below hb h1.lt, h2, h3⟩, h.bel.trans (hb.mono h.bel.size), h.ge⟩
theorem LW.put (h : LW w m A wr k) (hk : k < 9) : LW w m A (wr.setCell ⟨A, k, none⟩ (.string (strB (decB (valsM m k))))) (k + 1) := by
  obtain ⟨cs, h1, h2, h3⟩ := h.arr
  have hg := h.ge
  refine ⟨h.box.apart _ _ (by show A ≠ _; omega), ⟨_, h1.set k _, by simpa using h2, fun j hj => ?_⟩, h.bel.setCell (by show _ ≤ A; omega) _, h.ge⟩
  by_cases e : j = k
  · subst e; rw [Array.getElem?_setIfInBounds_self_of_lt (by omega)]
  · rw [Array.getElem?_setIfInBounds_ne (by omega)]; exact h3 j (by omega)
theorem LW.there (h : LW w m A wr k) (j : Nat) (hj : j < 9) : (∃ u, wr.cell? ⟨A, j, none⟩ = some u) ∧ wr.frozen? ⟨A, j, none⟩ = false := by
  obtain ⟨cs, h1, h2, h3⟩ := h.arr
  exact ⟨⟨_, h1.cell j (Array.getElem?_eq_getElem (by omega))⟩, h1.free j⟩
theorem LW.words (h : LW w m A wr 9) : ∀ j x, ((toksM m).map strB)[j]? = some x → (wr.setCell ⟨A, 3, none⟩ (.string (strB (wordK m.kind)))).cell? ⟨A, 0 + j, none⟩ = some (.string x) := by
  obtain ⟨cs, h1, h2, h3⟩ := h.arr
  intro j x hx
  have hj : j < 9 := by have := (List.getElem?_eq_some_iff.1 hx).1; simpa [toksM] using this
  have hb := h1.set 3 (.string (strB (wordK m.kind)))
  rw [Nat.zero_add]
  refine hb.cell j ?_
  have h0 := h3 0 (by omega); have h1 := h3 1 (by omega); have h2' := h3 2 (by omega); have h4 := h3 4 (by omega); have h5 := h3 5 (by omega); have h6 := h3 6 (by omega); have h7 := h3 7 (by omega); have h8 := h3 8 (by omega)
  have : j = 0 ∨ j = 1 ∨ j = 2 ∨ j = 3 ∨ j = 4 ∨ j = 5 ∨ j = 6 ∨ j = 7 ∨ j = 8 := by omega
  rcases this with rfl | rfl | rfl | rfl | rfl | rfl | rfl | rfl | rfl
  all_goals
    simp only [toksM, List.map_cons, List.map_nil, List.getElem?_cons_zero, List.getElem?_cons_succ, Option.some.injEq] at hx
    subst hx
    first | (rw [Array.getElem?_setIfInBounds_self_of_lt (by omega)]; done) | (rw [Array.getElem?_setIfInBounds_ne (by decide)]; assumption)
end
def RLineIs (m : Msg) (w : World) (e : Ending) (w' : World) : Prop := LineIs (if rightM m = true then some (lineM m) else none) w e w'
theorem one_msg (m : Msg) : m.cells.all (·.oneCell') = true := by simp [Msg.cells, Value.oneCell']
set_option maxRecDepth 20000 in
set_option maxHeartbeats 4000000 in
theorem repLine_any (m : Msg) (hf : Fits m) (w : World) (hm : MX w) :
    Calls Tryd.prog 42 #[.agg m.cells] w (RLineIs m w) := by
  have HM := Lib.hid hm
  clear hm
  have HX := Lib.hid (Blk.new w m.cells 62 w.heap.size rfl)
  cases hr : rightM m with
  | false =>
    have HR := Lib.hid hr
    clear hr
    go_enter Tryd.func42, Tryd.ntmps42
    go_wp2_with (refine load_blk (by rfl) 62 _ (by rfl) w.heap.size (by rfl) m.cells 62 HX.out _ Tryd.underlying62 rfl (by kernel_rfl) ?_)
    refine (mright_any m _).mono ?_
    rintro e w1 ⟨rfl, hb⟩
    have HB := Lib.hid (((Below.refl w.heap.size w).alloc (Nat.le_refl _) _).trans (hb.mono (by simp)))
    clear hb
    rw [HR.out]
    go_wp2_with fail
    go_ret2
    refine ⟨?_, HB.out⟩
    rw [HR.out]; rfl
  | true =>
    have HR := Lib.hid hr
    clear hr
    have HF := Lib.hid hf
    clear hf
    have HJL := Lib.hid (show (joinW 32 (toksM m)).length ≤ 140737488355328 from by have := line_len HF.out; unfold lineM at this; omega)
    go_enter Tryd.func42, Tryd.ntmps42
    go_wp2_with (refine load_blk (by rfl) 62 _ (by rfl) w.heap.size (by rfl) m.cells 62 HX.out _ Tryd.underlying62 rfl (by kernel_rfl) ?_)
    refine (mright_any m _).mono ?_
    rintro e w1 ⟨rfl, hb⟩
    have HB := Lib.hid (((Below.refl w.heap.size w).alloc (Nat.le_refl _) _).trans (hb.mono (by simp)))
    have HX1 := Lib.hid (HX.out.below hb HX.out.lt)
    have hsz : w.heap.size < w1.heap.size := HX1.out.lt
    clear hb HX
    rw [HR.out]
    have c0 : w1.cell? ⟨w.heap.size, 0, none⟩ = some (.int .i64 m.kind) := HX1.out.cell 0 rfl
    have c1 : w1.cell? ⟨w.heap.size, 1, none⟩ = some (.int .i64 m.sym) := HX1.out.cell 1 rfl
    have c2 : w1.cell? ⟨w.heap.size, 2, none⟩ = some (.int .i64 m.seq) := HX1.out.cell 2 rfl
    have c3 : w1.cell? ⟨w.heap.size, 3, none⟩ = some (.int .i64 m.tick) := HX1.out.cell 3 rfl
    have c4 : w1.cell? ⟨w.heap.size, 4, none⟩ = some (.int .i64 m.id) := HX1.out.cell 4 rfl
    have c5 : w1.cell? ⟨w.heap.size, 5, none⟩ = some (.int .i64 m.wth) := HX1.out.cell 5 rfl
    have c6 : w1.cell? ⟨w.heap.size, 6, none⟩ = some (.int .i64 m.price) := HX1.out.cell 6 rfl
    have c7 : w1.cell? ⟨w.heap.size, 7, none⟩ = some (.int .i64 m.qty) := HX1.out.cell 7 rfl
    have c8 : w1.cell? ⟨w.heap.size, 8, none⟩ = some (.int .i64 m.code) := HX1.out.cell 8 rfl
    have HL0 := Lib.hid (show LW w m w1.heap.size (w1.alloc (.cells #[.string ⟨#[]⟩, .string ⟨#[]⟩, .string ⟨#[]⟩, .string ⟨#[]⟩, .string ⟨#[]⟩, .string ⟨#[]⟩, .string ⟨#[]⟩, .string ⟨#[]⟩, .string ⟨#[]⟩] 146)) 0 from
      ⟨HX1.out.old _, ⟨_, Blk.new _ _ _ _ rfl, rfl, fun j h => absurd h (Nat.not_lt_zero _)⟩, HB.out.alloc HB.out.size _, hsz⟩)
    go_wp2_with fail
    generalize w1.alloc (.cells #[.string ⟨#[]⟩, .string ⟨#[]⟩, .string ⟨#[]⟩, .string ⟨#[]⟩, .string ⟨#[]⟩, .string ⟨#[]⟩, .string ⟨#[]⟩, .string ⟨#[]⟩, .string ⟨#[]⟩] 146) = w2 at HL0 ⊢
    generalize w1.heap.size = A at HL0 ⊢
    clear c0 c1 c2 c3 c4 c5 c6 c7 c8 HX1 HB hsz
    go_loopw [27] (fun i wr => ∃ k : Nat, k ≤ 9 ∧ i = .int .i64 k ∧ LW w m A wr k) (fun i _ => 9 - (intOf i).toNat)
    case atStart => exact ⟨0, by omega, rfl, HL0.out⟩
    case round =>
      obtain ⟨k, hk, rfl, hl⟩ := hrel
      have HLW := Lib.hid hl
      have HMX := Lib.hid (HM.out.below (n := 0) hl.bel)
      clear hl HL0
      by_cases hlt : k < 9
      · have hin := vals_in HF.out k hlt
        have hix := index_at m k hlt
        unfold nineM at hix
        have hk9 : (k : Int) < 9 := by omega
        generalize hv : valsM m k = v at hin hix
        have HV := Lib.hid hv
        clear hv
        go_wp2_with fail
        refine (number_any v hin.1 hin.2 wr HMX.out).mono ?_
        rintro e w3 ⟨rfl, hb3⟩
        have HL3 := Lib.hid (HLW.out.below hb3)
        obtain ⟨⟨u, cu⟩, fu⟩ := HL3.out.there k hlt
        have HP := Lib.hid (HL3.out.put hlt)
        rw [HV.out] at HP
        clear hb3 HLW HMX hix
        go_wp2_with fail
        go_roundw
        case rel => exact ⟨k + 1, by omega, by go_num, HP.out⟩
        case measure => simp [intOf]; omega
      · obtain rfl : k = 9 := by omega
        clear hlt hk
        have c0 : wr.cell? ⟨w.heap.size, 0, none⟩ = some (.int .i64 m.kind) := HLW.out.box.cell 0 rfl
        go_wp2_with fail
        refine (word_any m.kind wr).mono ?_
        rintro e w3 ⟨rfl, hb3⟩
        have HL3 := Lib.hid (HLW.out.below hb3)
        obtain ⟨⟨u, cu⟩, fu⟩ := HL3.out.there 3 (by decide)
        have hA : A < w3.heap.size := by obtain ⟨cs, h1, _⟩ := HL3.out.arr; exact h1.lt
        have HJ := Lib.hid (join_any A 9 (toksM m) (w3.setCell ⟨A, 3, none⟩ (.string (strB (wordK m.kind)))) (by simp [World.setCell]; exact hA) (by simp [toksM]) (by simp [toksM]) HJL.out HL3.out.words)
        have HB4 := Lib.hid (HL3.out.bel.setCell (p := ⟨A, 3, none⟩) (Nat.le_of_lt HL3.out.ge) (.string (strB (wordK m.kind))))
        clear hb3 HLW c0
        go_wp2_with fail
        refine HJ.out.mono ?_
        rintro e w4 ⟨rfl, hb4⟩
        have HB5 := Lib.hid (HB4.out.trans (hb4.mono HB4.out.size))
        clear hb4
        go_wp2_with fail
        go_ret2
        refine ⟨?_, HB5.out⟩
        rw [HR.out]; rfl
end Go.Proofs.YtmkcooamgojbpaaDoor.Reports
