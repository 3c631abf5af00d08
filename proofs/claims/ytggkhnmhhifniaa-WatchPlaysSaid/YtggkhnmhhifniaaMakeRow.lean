/- make of elements of several cells. -/
import Derived.Test.YtggkhnmhhifniaaKit
import Derived.Laws.MakeOwn
namespace Go.Proofs.Ytggkhnmhhifniaa.Kit
open Go.RowKit

theorem run_make_rowN {P : Program} (t e : TypeId) (i : TypeInfo) (z : Value) (ht : P.underlying t = some (.slice e)) (hi : P.info? e = some i) (hz : i.zero = some z)
    (kl kc : IntKind) (n c : Nat) (hnc : n ≤ c) (hbytes : i.bytes * c ≤ 281474976710656) (h63 : c ≤ 9223372036854775807) (w : World) :
    (Instr.makeSlice t (.int kl (n : Int)) (.int kc (c : Int))).run P w = .ok (.slice (some ⟨w.heap.size, 0, none⟩) n c) (w.alloc (.cells (madeCells z.cells (c * i.size)) e)) := by
  have hb : (i.bytes : Int) * (c : Int) ≤ 281474976710656 := by
    have h : ((i.bytes * c : Nat) : Int) ≤ 281474976710656 := by omega
    rwa [Int.natCast_mul] at h
  have hr := run_make (P := P) w t e i z ht hi hz kl kc n c (by omega) (by omega) hb (by omega)
  simp only [Int.toNat_natCast] at hr
  exact hr
theorem madeCells_at (z : Array Value) (n s i j : Nat) (v : Value) (hs : z.size = s) (hj : j < s) (hi : i < n) (hv : z[j]? = some v) : (madeCells z (n * s))[i * s + j]? = some v := by
  have hlt : i * s + j < n * s := by
    have : (i + 1) * s ≤ n * s := Nat.mul_le_mul_right s hi
    rw [Nat.add_mul] at this; omega
  have hm : (i * s + j) % s = j := by rw [Nat.add_comm, Nat.add_mul_mod_self_right]; exact Nat.mod_eq_of_lt hj
  unfold madeCells
  rw [Array.getElem?_eq_getElem (by simpa using hlt)]
  simp only [Array.getElem_map, Array.getElem_range, hs, hm]
  rw [getElem!_pos z j (by omega)]
  rw [Array.getElem?_eq_getElem (by omega)] at hv
  exact hv
end Go.Proofs.Ytggkhnmhhifniaa.Kit
