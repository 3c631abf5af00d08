/- Parts of the proof: OctetsU, OctetsI. -/
import Derived.Test.YtmkcooamgojbpaaGreatDoorPart11
import Derived.Deep.RegionHeld3

/- octets.Writer: Uint, Int, Bytes. -/
namespace Go.Proofs.YtmkcooamgojbpaaGreatDoor.Octets
set_option linter.unusedVariables false
open Go.RowKit Go.Proofs.YtmkcooamgojbpaaGreatDoor.Kit Go.Proofs.YtmkcooamgojbpaaGreatDoor.Blk
attribute [local go_sem ↓] Go.wp_at_zero Go.wp_at_succ

/-- A number in k bytes, the greatest first. -/
def beB : Nat → Nat → List Nat
  | 0, _ => []
  | k + 1, n => (n / 256 ^ k % 256) :: beB k n
theorem beB_len (k n : Nat) : (beB k n).length = k := by induction k with
  | zero => rfl
  | succ k ih => simp [beB, ih]

end Go.Proofs.YtmkcooamgojbpaaGreatDoor.Octets

/- octets.Writer: Int, Bytes; bytes.Clone. -/
namespace Go.Proofs.YtmkcooamgojbpaaGreatDoor.Octets
set_option linter.unusedVariables false
open Go.RowKit Go.Proofs.YtmkcooamgojbpaaGreatDoor.Kit Go.Proofs.YtmkcooamgojbpaaGreatDoor.Blk
attribute [local go_sem ↓] Go.wp_at_zero Go.wp_at_succ

/-- A signed number, its sign as the lowest bit. -/
def zig (n : Int) : Nat := if 0 ≤ n then (2 * n).toNat else (-2 * n - 1).toNat
theorem zig_lt (n : Int) (h0 : -9223372036854775808 ≤ n) (h1 : n ≤ 9223372036854775807) : zig n < 18446744073709551616 := by
  unfold zig; split <;> omega

theorem u64_xor0 (a : Nat) (h : a < 18446744073709551616) : bits .xor .u64 (a : Int) 0 = (a : Int) := by
  show IntKind.u64.wrap ((BitVec.ofInt 64 (a : Int) ^^^ BitVec.ofInt 64 0).toNat : Int) = a
  have e : BitVec.ofInt 64 (a : Int) ^^^ BitVec.ofInt 64 0 = BitVec.ofNat 64 a := by
    show BitVec.ofInt 64 (a : Int) ^^^ 0#64 = _
    simp
  rw [e, BitVec.toNat_ofNat, IntKind.wrap_u64]
  omega
theorem u64_xor1 (a : Nat) (h : a < 18446744073709551616) : bits .xor .u64 (a : Int) 18446744073709551615 = ((18446744073709551615 - a : Nat) : Int) := by
  show IntKind.u64.wrap ((BitVec.ofInt 64 (a : Int) ^^^ BitVec.ofInt 64 18446744073709551615).toNat : Int) = _
  have e : BitVec.ofInt 64 (a : Int) ^^^ BitVec.ofInt 64 18446744073709551615 = ~~~ BitVec.ofNat 64 a := by
    have : BitVec.ofInt 64 18446744073709551615 = BitVec.allOnes 64 := by decide
    rw [this, BitVec.xor_allOnes]; simp
  rw [e, BitVec.toNat_not, BitVec.toNat_ofNat, IntKind.wrap_u64]
  omega

/-- Bytes in a block of their own. -/
def Own (N : Nat) (l : List Nat) (v : Value) (w : World) : Prop := w.ownsRow N 5 1 v l.length (vals l)
/-- A function answers with bytes of its own. -/
def BytesIs (l : List Nat) (w : World) (e : Ending) (w' : World) : Prop := ∃ v, e = .returned v ∧ Own w.heap.size l v w' ∧ Below w.heap.size w w'

set_option maxRecDepth 20000 in
theorem clone_any (N : Nat) (l : List Nat) (h0 : 0 < l.length) (hl : l.length ≤ 100000) (v : Value) (w : World) (h : Own N l v w) :
    Calls Tryz.prog 122 #[v] w fun e w' => BytesIs l w e w' := by
  obtain ⟨i0, hi0, hz0, hz1, hz2⟩ := info_parts infoU8
  have hF := World.ownsRow.form h h0
  obtain ⟨g, cap, rfl, hg1, hg2⟩ := hF
  have HB := Lib.hid h
  have HL := Lib.hid (vals_len l)
  have HE := Lib.hid (show (w.alloc (.cells #[] 5)).ownsRow w.heap.size 5 1 (.slice (some ⟨w.heap.size, 0, none⟩) 0 0) 0 [] from World.ownsRow_made w #[] 0 (Nat.le_refl _) (by decide) rfl)
  have hnil : ∀ W : World, (binOp .eql 49 (.slice (some ⟨g, 0, none⟩) l.length cap) (.slice none 0 0)).run Tryz.prog W = .ok (.bool false) W := fun _ => by kernel_rfl
  have HN := Lib.hid (show ∀ j u, (vals l)[j]? = some u → (w.alloc (.cells #[] 5)).cell? ((⟨g, 0, none⟩ : Addr).add j) = some u from World.ownsRow.cells (World.ownsRow.alloc h (.cells #[] 5)) rfl)
  go_enter Tryz.func122, Tryz.ntmps122
  go_wp2_with (at_builtin; refine wpList_append_lies _ (by rfl) _ _ _ (by rfl) w.heap.size 5 i0 (.int .u8 0) 1 1 Tryz.underlying49 hi0 hz0 hz1 hz2 (by rfl) (by decide) _ 0 [] (by rfl) HE.out ⟨g, 0, none⟩ l.length cap (vals l) (by rfl) (by rw [HL.out, Nat.mul_one]) HN.out (one_vals l) h0 (by unfold maxLen; omega) (by omega) (by simp) (w.heap.size + 1) (by simp) ?_; intro ga ca w5 hown hgrow hat hlt5; have HOWN := Lib.hid hown; have HGR := Lib.hid hgrow; clear hown hgrow hat hlt5)
  go_ret
  refine ⟨_, rfl, by have h := HOWN.out; rw [Nat.zero_add, List.nil_append] at h; exact h, ?_⟩
  exact ((Below.refl _ _).alloc (Nat.le_refl _) _).grown HGR.out (by simp) (fun k e => by have e : some w.heap.size = some k := e; injection e with e; omega)

end Go.Proofs.YtmkcooamgojbpaaGreatDoor.Octets
