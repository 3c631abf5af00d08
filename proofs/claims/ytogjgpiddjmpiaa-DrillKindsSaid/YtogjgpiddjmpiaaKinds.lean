/- damperlaw37.DrillKinds: the kinds, by a range over slices.All. -/
import Derived.Test.YtogjgpiddjmpiaaIter
import Derived.Test.YtogjgpiddjmpiaaAlive37
import Derived.Shelf.RegionOpen
namespace Go.Proofs.Ytogjgpiddjmpiaa.Kinds
set_option linter.unusedVariables false
open Go.RowKit Go.Shelf Go.Proofs.Ytogjgpiddjmpiaa.Kit Go.Proofs.Ytogjgpiddjmpiaa.Blk Go.Proofs.Ytogjgpiddjmpiaa.Iter
attribute [local go_sem] Oper.semAt_some

def calm : ByteArray := ⟨#[99, 97, 108, 109]⟩
def crash : ByteArray := ⟨#[99, 114, 97, 115, 104]⟩
def rally : ByteArray := ⟨#[114, 97, 108, 108, 121]⟩
def crossed : ByteArray := ⟨#[99, 114, 111, 115, 115, 101, 100]⟩
def wild : ByteArray := ⟨#[119, 105, 108, 100]⟩
def names : List ByteArray := [calm, crash, rally, crossed, wild]
def cells : Array Value := #[.string calm, .string crash, .string rally, .string crossed, .string wild]

theorem names_any (w : World) : Calls Try.prog 16 #[] w fun e w' => e = .returned (.slice (some ⟨w.heap.size, 0, none⟩) 5 5) ∧ w' = w.alloc (.cells cells 9) := by
  go_enter Try.func16, Try.ntmps16
  go_wp2
  go_ret
  exact ⟨rfl, rfl⟩
theorem all_any (a : Option Addr) (n c : Nat) (w : World) : Calls Try.prog 59 #[.slice a n c] w fun e w' => e = .returned (.func (.func 102) #[] #[.pointer (some ⟨w.heap.size, 0, none⟩)]) ∧ w' = w.alloc (.cells #[.slice a n c] 26) := by
  go_enter Try.func59, Try.ntmps59
  go_wp2
  go_ret
  exact ⟨rfl, rfl⟩
theorem each_any (w : World) : Calls Try.prog 15 #[] w fun e w' => e = .returned (.func (.func 102) #[] #[.pointer (some ⟨w.heap.size + 1, 0, none⟩)]) ∧
    w' = (w.alloc (.cells cells 9)).alloc (.cells #[.slice (some ⟨w.heap.size, 0, none⟩) 5 5] 26) := by
  go_enter Try.func15, Try.ntmps15
  go_wp2_with (go_at_call 59; refine (all_any _ _ _ _).mono ?_; rintro e w' ⟨rfl, rfl⟩)
  go_ret
  exact ⟨by simp, by simp [cells]; rfl⟩

/-- The pairs that come. -/
def full : List (Nat × ByteArray) := [(0, calm), (1, crash), (2, rally), (3, crossed), (4, wild)]
def upto (k : Nat) : List (Nat × ByteArray) := full.take k

set_option maxRecDepth 100000 in
set_option maxHeartbeats 2000000 in
theorem all1_in (F : Fence) (n : Nat) (h8 : F.fn 102) (hro : F.round = none) (hn : 1 ≤ n) (l Bs b : Nat) (J Jx : List (Nat × ByteArray) → World → Prop)
    (hY : ∀ pre x W, J pre W → pre.length < 5 → YieldAt F (n - 1) Try.prog l #[.int .i64 (x.1 : Int), .string x.2] W fun e W' =>
      (e = .returned (.bool true) ∧ J (pre ++ [x]) W' ∧ KS (· = b) W W') ∨ (e = .returned (.bool false) ∧ Jx (pre ++ [x]) W'))
    (W : World) (hBs : W.cell? ⟨Bs, 0, none⟩ = some (.slice (some ⟨b, 0, none⟩) 5 5)) (hc : Blk W b cells 9) (h0 : J [] W) :
    CallsIn F n Try.prog 102 #[.func (.yield l) #[] #[], .pointer (some ⟨Bs, 0, none⟩)] W fun e W' => (∃ v, e = .returned v) ∧
      ((∃ ys, ys = full ∧ J ys W') ∨ (∃ pre, pre <+: full ∧ Jx pre W')) := by
  refine callsIn_of_wp Try.func102 rfl h8 ?_ hro
  simp only [Try.ntmps102, List.size_toArray, List.length_cons, List.length_nil, Nat.reduceAdd, Nat.reduceSub, Array.replicate_succ, Array.replicate_zero, List.push_toArray, List.append_toArray, List.nil_append, List.cons_append]
  gi_wp2
  gi_loopw [7] (fun i wr => ∃ k : Nat, k ≤ 5 ∧ i = .int .i64 k ∧ J (upto k) wr ∧ KS (· = b) W wr) (fun i _ => 5 - (intOf i).toNat)
  case atStart => exact ⟨0, by omega, rfl, h0, ks_refl _ _⟩
  case round =>
    obtain ⟨k, hk, rfl, hJs, hnx⟩ := hrel
    by_cases hlt : k < 5
    · obtain ⟨s, hs, hu⟩ : ∃ s, (cells[k]? = some (.string s)) ∧ upto (k + 1) = upto k ++ [(k, s)] := by
        have : k = 0 ∨ k = 1 ∨ k = 2 ∨ k = 3 ∨ k = 4 := by omega
        rcases this with rfl | rfl | rfl | rfl | rfl <;> exact ⟨_, rfl, rfl⟩
      have hpre : upto (k + 1) <+: full := List.take_prefix _ _
      have hlen : (upto k).length < 5 := by unfold upto full; simp; omega
      obtain ⟨fn, tmps, assign, body, hy, hR⟩ := hY _ (k, s) wr hJs hlen
      dsimp only at hy hR
      have hcx : wr.cell? ⟨b, k, none⟩ = some (.string s) := (ks_cell hnx rfl).trans (hc.cell k hs)
      have g0 : (0 : Int) ≤ (k : Int) := by omega
      have g1 : (k : Int) < 5 := by omega
      gi_wp2
      refine hR.mono ?_
      rintro e W3 (⟨rfl, hJ3, hk3⟩ | ⟨rfl, hJx3⟩)
      · gi_wp2
        go_roundw
        case rel => exact ⟨k + 1, by omega, by simp, by rw [hu]; exact hJ3, ks_t hnx hk3⟩
        case measure => simp [intOf]; omega
      · gi_wp2
        refine bodyPost_ret (results_none rfl _ _ _) rfl ?_
        exact ⟨⟨_, rfl⟩, .inr ⟨_, by rw [← hu]; exact hpre, hJx3⟩⟩
    · obtain rfl : k = 5 := by omega
      gi_wp2
      go_end0
      exact ⟨⟨_, rfl⟩, .inl ⟨_, rfl, hJs⟩⟩

theorem all_stops (F : Fence) (n : Nat) (h8 : F.fn 102) (hro : F.round = none) (hn : 1 ≤ n) (Bs b : Nat) (w : World) (hBs : Bs < w.heap.size)
    (hc : w.cell? ⟨Bs, 0, none⟩ = some (.slice (some ⟨b, 0, none⟩) 5 5)) (hI : Blk w b cells 9) :
    SeqStopsK F n Try.prog 102 #[.pointer (some ⟨Bs, 0, none⟩)] (fun x : Nat × ByteArray => #[Value.int .i64 (x.1 : Int), .string x.2]) (KS (· = b)) (fun ys => ys = full) (fun pre => pre <+: full) 5 w := fun l J Jx W hW _ _ hY h0 =>
  all1_in F n h8 hro hn l Bs b J Jx hY W ((hW.cell (p := ⟨Bs, 0, none⟩) hBs).trans hc) (hI.below hW hI.lt) h0
end Go.Proofs.Ytogjgpiddjmpiaa.Kinds
