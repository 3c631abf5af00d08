/- Parts of the proof: RSplit, RNumber, ShRowR, ShNumsR, ShSymR. -/
import Derived.Test.YtmkcooamgojbpaaGreatDoorPart17
import Derived.Test.YtmkcooamgojbpaaGreatDoorPart27
import Derived.IntWalk
import Derived.Test.YtmkcooamgojbpaaGreatDoorPart24
import Derived.Test.YtmkcooamgojbpaaGreatDoorPart4
import Derived.Test.YtmkcooamgojbpaaGreatDoorPart8
import Derived.Test.YtmkcooamgojbpaaGreatDoorPart25
import Derived.Deep.RegionHeld3

/- damperref35.Split. -/
namespace Go.Proofs.YtmkcooamgojbpaaGreatDoor.Lines
open Go.RowKit Go.Proofs.YtmkcooamgojbpaaGreatDoor.Kit Go.Proofs.YtmkcooamgojbpaaGreatDoor.Blk Go.Proofs.YtmkcooamgojbpaaGreatDoor.Dec Go.Proofs.YtmkcooamgojbpaaGreatDoor.Words Go.Proofs.YtmkcooamgojbpaaGreatDoor.Octets
attribute [local go_sem ↓] Go.wp_at_zero Go.wp_at_succ
set_option linter.unusedVariables false

/-- The last of a row stored. -/
theorem GL.last {n0 n cap g : Nat} {w W : World} {xs : List Value} {u u' : Value} (h : GL n0 9 1 w W (.slice (some ⟨g, 0, none⟩) n cap) n (xs ++ [u])) (hn : n = xs.length + 1) (hge : n0 ≤ g) :
    GL n0 9 1 w (W.setCell ⟨g, n - 1, none⟩ u') (.slice (some ⟨g, 0, none⟩) n cap) n (xs ++ [u']) := by
  have hs := World.ownsRow.stored h.own (n - 1) u'
  have e : (xs ++ [u]).set (n - 1) u' = xs ++ [u'] := by
    subst hn
    rw [Nat.add_sub_cancel, List.set_append]
    simp
  rw [e] at hs
  exact ⟨hs.1, h.bel.setCell hge _, Nat.le_trans h.le hs.2.size, fun h0 => by omega⟩
theorem GL.ge {n0 n cap g s T : Nat} {w W : World} {xs : List Value} (h : GL n0 T s w W (.slice (some ⟨g, 0, none⟩) n cap) n xs) : n0 ≤ g ∧ g < W.heap.size := World.ownsRow.lt h.own g rfl
theorem one_char (l : List UInt8) (k : Nat) (h : k < l.length) : (strB l).extract k (k + 1) = strB [l[k]] := by
  apply ByteArray.ext
  simp [strB]
  rw [List.drop_eq_getElem_cons h]
  rfl
end Go.Proofs.YtmkcooamgojbpaaGreatDoor.Lines

/- damperref35.Number. -/
namespace Go.Proofs.YtmkcooamgojbpaaGreatDoor.Lines
open Go.RowKit Go.Proofs.YtmkcooamgojbpaaGreatDoor.Kit Go.Proofs.YtmkcooamgojbpaaGreatDoor.Blk Go.Proofs.YtmkcooamgojbpaaGreatDoor.Dec Go.Proofs.YtmkcooamgojbpaaGreatDoor.Words Go.Proofs.YtmkcooamgojbpaaGreatDoor.Octets
attribute [local go_sem ↓] Go.wp_at_zero Go.wp_at_succ
set_option linter.unusedVariables false

theorem tdiv_ten (d : Int) (h : 0 ≤ d ∧ d ≤ 9) : (-9223372036854775808 + d).tdiv 10 = -((9223372036854775808 - d) / 10) := by
  have e : (-9223372036854775808 + d) = -(9223372036854775808 - d) := by omega
  rw [e, Int.neg_tdiv, Int.tdiv_eq_ediv_of_nonneg (by omega)]
end Go.Proofs.YtmkcooamgojbpaaGreatDoor.Lines

/- damperref40.Row. -/
namespace Go.Proofs.YtmkcooamgojbpaaGreatDoor.Sheet
open Go.RowKit Go.Proofs.YtmkcooamgojbpaaGreatDoor.Kit Go.Proofs.YtmkcooamgojbpaaGreatDoor.Blk Go.Proofs.YtmkcooamgojbpaaGreatDoor.Words Go.Proofs.YtmkcooamgojbpaaGreatDoor.Octets Go.Proofs.YtmkcooamgojbpaaGreatDoor.Lines Go.Proofs.YtmkcooamgojbpaaGreatDoor.Dec Go.Proofs.YtmkcooamgojbpaaGreatDoor.Symbol
attribute [local go_sem ↓] Go.wp_at_zero Go.wp_at_succ
set_option linter.unusedVariables false

def rowC (r : Int × Int) : Array Value := #[.int .i64 r.1, .int .i64 r.2]
def RowIs (o : Option (Int × Int)) (w : World) (e : Ending) (w' : World) : Prop :=
  e = .returned (.tuple #[.agg (rowC (o.getD (0, 0))), .int .i64 (if o.isSome = true then 0 else 4)]) ∧ Below w.heap.size w w'
def phF (k : Nat) : Txt := phaseT (k : Int)
theorem rphases_any (w : World) : Calls Tryz.prog 27 #[] w fun e w' => e = .returned (.slice (some ⟨w.heap.size, 0, none⟩) 3 3) ∧ (∀ k, k < 3 → w'.cell? ⟨w.heap.size, k, none⟩ = some (.string (strB (phF k)))) ∧ Below w.heap.size w w' := by
  have HX := Lib.hid (Blk.new w #[.string (strB (phF 0)), .string (strB (phF 1)), .string (strB (phF 2))] 9 w.heap.size rfl)
  have HB := Lib.hid ((Below.refl w.heap.size w).alloc (Nat.le_refl _) (.cells #[.string (strB (phF 0)), .string (strB (phF 1)), .string (strB (phF 2))] 9))
  go_enter Tryz.func27, Tryz.ntmps27
  go_wp2_with fail
  go_ret
  refine ⟨rfl, fun k hk => ?_, HB.out⟩
  have : k = 0 ∨ k = 1 ∨ k = 2 := by omega
  rcases this with rfl | rfl | rfl <;> exact HX.out.cell _ rfl
theorem row_len {l : Txt} (h : (splitW l).length ≠ 3) : rowF l = none := by
  unfold rowF
  match e : splitW l with
  | [] => rfl
  | [_] => rfl
  | [_, _] => rfl
  | _ :: _ :: _ :: _ :: _ => rfl
  | [a, b, c] => rw [e] at h; simp at h
theorem row_three {l a b c : Txt} (e : splitW l = [a, b, c]) : rowF l = if a = wRow ∧ posW b = true then (phaseI c).map fun p => (valW b, p) else none := by
  unfold rowF; rw [e, rowW]
theorem phase_hit {c : Txt} {k : Nat} (hk : k < 3) (h : phF k = c) : phaseI c = some (k : Int) := by
  rw [← h]; exact phase_T ⟨by omega, by omega⟩
theorem phase_miss {c : Txt} (h : ∀ k, k < 3 → phF k ≠ c) : phaseI c = none := by
  cases e : phaseI c with
  | none => rfl
  | some p =>
    have h0 := T_phase e
    have hp : p = 0 ∨ p = 1 ∨ p = 2 := by
      unfold phaseI at e
      split at e
      · injection e with e; omega
      · split at e
        · injection e with e; omega
        · split at e
          · injection e with e; omega
          · cases e
    rcases hp with rfl | rfl | rfl
    · exact absurd h0 (h 0 (by decide))
    · exact absurd h0 (h 1 (by decide))
    · exact absurd h0 (h 2 (by decide))
end Go.Proofs.YtmkcooamgojbpaaGreatDoor.Sheet

/- damperref40.numbers. -/
namespace Go.Proofs.YtmkcooamgojbpaaGreatDoor.Sheet
open Go.RowKit Go.Proofs.YtmkcooamgojbpaaGreatDoor.Kit Go.Proofs.YtmkcooamgojbpaaGreatDoor.Blk Go.Proofs.YtmkcooamgojbpaaGreatDoor.Words Go.Proofs.YtmkcooamgojbpaaGreatDoor.Octets Go.Proofs.YtmkcooamgojbpaaGreatDoor.Lines Go.Proofs.YtmkcooamgojbpaaGreatDoor.Dec
attribute [local go_sem ↓] Go.wp_at_zero Go.wp_at_succ
set_option linter.unusedVariables false

def intsV (l : List Int) : List Value := l.map (Value.int .i64)
theorem intsV_len (l : List Int) : (intsV l).length = l.length := by simp [intsV]
theorem infoI64 : (Tryz.prog.info? 2).map (fun i => (i.zero, i.size, i.bytes)) = some (some (.int .i64 0), 1, 8) := by kernel_rfl
theorem gl_base {T s n : Nat} {w w2 W : World} {v : Value} {xs : List Value} (h : GL w2.heap.size T s w2 W v n xs) (hb : Below w.heap.size w w2) : GL w.heap.size T s w W v n xs :=
  ⟨⟨h.own.1, h.own.2.imp id fun ⟨g, cap, cur, h1, h2, h3⟩ => ⟨g, cap, cur, h1, Nat.le_trans hb.size h2, h3⟩⟩, hb.trans (h.bel.mono hb.size), Nat.le_trans hb.size h.le, h.nil⟩
/-- What a line's numbers are told as. -/
def NumsR (o : Option (List Int)) (w : World) (e : Ending) (w' : World) : Prop :=
  (o = none ∧ e = .returned (.tuple #[.slice none 0 0, .bool false]) ∧ Below w.heap.size w w') ∨
  ∃ ns v, o = some ns ∧ e = .returned (.tuple #[v, .bool true]) ∧ GL w.heap.size 2 1 w w' v ns.length (intsV ns)
theorem vals_next {r : List Txt} {k : Nat} (h : k < r.length) : intsV ((r.take (k + 1)).map valW) = intsV ((r.take k).map valW) ++ [.int .i64 (valW r[k])] := by
  rw [List.take_succ_eq_append_getElem h]
  unfold intsV
  rw [List.map_append, List.map_append]
  rfl
end Go.Proofs.YtmkcooamgojbpaaGreatDoor.Sheet

/- damperref40.Symbol. -/
namespace Go.Proofs.YtmkcooamgojbpaaGreatDoor.Sheet
open Go.RowKit Go.Proofs.YtmkcooamgojbpaaGreatDoor.Kit Go.Proofs.YtmkcooamgojbpaaGreatDoor.Blk Go.Proofs.YtmkcooamgojbpaaGreatDoor.Words Go.Proofs.YtmkcooamgojbpaaGreatDoor.Octets Go.Proofs.YtmkcooamgojbpaaGreatDoor.Lines Go.Proofs.YtmkcooamgojbpaaGreatDoor.Dec Go.Proofs.YtmkcooamgojbpaaGreatDoor.Symbol
attribute [local go_sem ↓] Go.wp_at_zero Go.wp_at_succ
set_option linter.unusedVariables false

def zeroSym : Sym := ⟨0, 0, 0, 0, 0, 0, 0, 0, 0, 0, 0, 0, 0, 0, 0, 0⟩
def SymIs (o : Option Sym) (w : World) (e : Ending) (w' : World) : Prop :=
  e = .returned (.tuple #[.agg (o.getD zeroSym).cells, .int .i64 (if o.isSome = true then 0 else 4)]) ∧ Below w.heap.size w w'
theorem sym_one (s : Sym) : s.cells.all (·.oneCell') = true := by simp [Sym.cells, Value.oneCell']
end Go.Proofs.YtmkcooamgojbpaaGreatDoor.Sheet
