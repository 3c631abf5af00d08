/- (*watch.Watch).check: the whole. -/
import Derived.Test.YtggkhnmhhifniaaWatchCheck
namespace Go.Proofs.Ytggkhnmhhifniaa.Watch
open Go.RowKit Go.Proofs.Ytggkhnmhhifniaa.Kit Go.Proofs.Ytggkhnmhhifniaa.Blk Go.Proofs.Ytggkhnmhhifniaa.Symbol
attribute [local go_sem ↓] Go.wp_at_zero Go.wp_at_succ

def wrules (A M K T : Nat) (ks : List Kn) (seq tick : Int) (m : Msg) : List WFirst.R :=
  [⟨59, #[.pointer (some ⟨M, 0, none⟩), .pointer (some ⟨A, 0, none⟩)], 4, m.seq == wrap64 (seq + 1)⟩,
   ⟨60, #[.pointer (some ⟨A, 0, none⟩), .pointer (some ⟨M, 0, none⟩)], 15, !lateF ks tick m.tick⟩,
   ⟨62, #[.pointer (some ⟨K, 0, none⟩), .pointer (some ⟨M, 0, none⟩)], 5, (kOf ks m.sym).isSome || globalF m⟩,
   ⟨64, #[.pointer (some ⟨T, 0, none⟩), .pointer (some ⟨M, 0, none⟩)], 9, !(m.kind == 3) || decide (1 ≤ m.qty)⟩,
   ⟨65, #[.pointer (some ⟨T, 0, none⟩), .pointer (some ⟨K, 0, none⟩), .pointer (some ⟨M, 0, none⟩)], 10, !(m.kind == 3) || openF ((kOf ks m.sym).getD Kn.zero) m.code⟩,
   ⟨67, #[.pointer (some ⟨T, 0, none⟩), .pointer (some ⟨K, 0, none⟩), .pointer (some ⟨M, 0, none⟩)], 11, !(m.kind == 3) || inF ((kOf ks m.sym).getD Kn.zero) m⟩]
theorem fault_wrules (A M K T : Nat) (ks : List Kn) (seq tick : Int) (m : Msg) : WFirst.fault (wrules A M K T ks seq tick m) = faultF ks seq tick (kOf ks m.sym) m := by
  unfold wrules faultF
  simp only [WFirst.fault]
  cases (m.seq == wrap64 (seq + 1)) <;> cases lateF ks tick m.tick <;> cases ((kOf ks m.sym).isSome || globalF m) <;> cases (!(m.kind == 3) || decide (1 ≤ m.qty)) <;>
    cases (!(m.kind == 3) || openF ((kOf ks m.sym).getD Kn.zero) m.code) <;> cases (!(m.kind == 3) || inF ((kOf ks m.sym).getD Kn.zero) m) <;> rfl
theorem in1 (c : Array Value) (w : World) : (callFunc 59 c).run Try.prog w = .ok (.enter 59 c) w := callFunc_enter Try.func59 (by kernel_rfl) (by kernel_rfl) c w
theorem in2 (c : Array Value) (w : World) : (callFunc 60 c).run Try.prog w = .ok (.enter 60 c) w := callFunc_enter Try.func60 (by kernel_rfl) (by kernel_rfl) c w
theorem in3 (c : Array Value) (w : World) : (callFunc 62 c).run Try.prog w = .ok (.enter 62 c) w := callFunc_enter Try.func62 (by kernel_rfl) (by kernel_rfl) c w
theorem in4 (c : Array Value) (w : World) : (callFunc 64 c).run Try.prog w = .ok (.enter 64 c) w := callFunc_enter Try.func64 (by kernel_rfl) (by kernel_rfl) c w
theorem in5 (c : Array Value) (w : World) : (callFunc 65 c).run Try.prog w = .ok (.enter 65 c) w := callFunc_enter Try.func65 (by kernel_rfl) (by kernel_rfl) c w
theorem in6 (c : Array Value) (w : World) : (callFunc 67 c).run Try.prog w = .ok (.enter 67 c) w := callFunc_enter Try.func67 (by kernel_rfl) (by kernel_rfl) c w

theorem cell_hi {w w' : World} (h : Below w.heap.size w w') {p : Addr} {v : Value} (hc : w.cell? p = some v) : w'.cell? p = some v := by
  rw [h.cell (World.block_lt_of_cell? w _ hc)]; exact hc
theorem below_up {w w' w'' : World} (h : Below w.heap.size w w') (h' : Below w'.heap.size w' w'') : Below w.heap.size w w'' := h.trans (h'.mono h.size)

set_option maxHeartbeats 4000000 in
theorem check_any (P L cap : Nat) (sy : List Sym) (ks : List Kn) (seq tick : Int) (m : Msg) (w : World) (h : PW w P L cap sy ks seq tick) :
    Calls Try.prog 30 #[.pointer (some ⟨P, 0, none⟩), .agg m.cells] w fun e w' =>
    e = .returned (.int .i64 (faultF ks seq tick (kOf ks m.sym) m)) ∧ Below w.heap.size w w' := by
  have HP := Lib.hid h
  clear h
  go_enter Try.func30, Try.ntmps30
  go_upto_region 1 with fail
  have hm1 := (Blk.new (w.alloc (.cells #[Value.pointer (some ⟨P, 0, none⟩)] 31)) m.cells 40 (w.heap.size + 1) (by simp))
  have hb1 : Below w.heap.size w ((w.alloc (.cells #[Value.pointer (some ⟨P, 0, none⟩)] 31)).alloc (.cells m.cells 40)) := ((Below.refl _ _).alloc (Nat.le_refl _) _).alloc (by simp) _
  have hz1 : ((w.alloc (.cells #[Value.pointer (some ⟨P, 0, none⟩)] 31)).alloc (.cells m.cells 40)).heap.size = w.heap.size + 2 := by simp
  have hc1 : ((w.alloc (.cells #[Value.pointer (some ⟨P, 0, none⟩)] 31)).alloc (.cells m.cells 40)).cell? ⟨w.heap.size, 0, none⟩ = some (.pointer (some ⟨P, 0, none⟩)) := by
    rw [cell_old _ _ _ (by simp)]; exact cell_new _ _ _ _ _ _ rfl rfl
  generalize ((w.alloc (.cells #[Value.pointer (some ⟨P, 0, none⟩)] 31)).alloc (.cells m.cells 40)) = W1 at hm1 hb1 hz1 hc1 ⊢
  have HP1 := Lib.hid (HP.out.below hb1)
  have m0 : W1.cell? ⟨w.heap.size + 1, 0, none⟩ = some (.int .i64 m.kind) := hm1.cell 0 rfl
  have m1 : W1.cell? ⟨w.heap.size + 1, 1, none⟩ = some (.int .i64 m.sym) := hm1.cell 1 rfl
  have HB1 := Lib.hid hb1
  have HM1 := Lib.hid hm1
  have HC1 := Lib.hid hc1
  clear hb1 hm1
  go_wp2_with fail
  refine (of_any P L cap sy ks seq tick m.sym _ HP1.out).mono ?_
  rintro e w1 ⟨rfl, rfl⟩
  have HV : Hid (ofV L ks.length m.sym = .pointer ((ofF ks.length m.sym).map fun i => ⟨L, i * 26, none⟩)) := Lib.hid rfl
  rw [HV.out]
  generalize (ofF ks.length m.sym).map (fun i => (⟨L, i * 26, none⟩ : Addr)) = pv at HV ⊢
  go_wp2_with fail
  have hcap : Cap ((W1.alloc (.cells #[.pointer pv] 76)).alloc (.cells #[.bool (m.kind == 3)] 4)) w.heap.size (w.heap.size + 1) (w.heap.size + 2) (w.heap.size + 2 + 1) P L cap sy ks seq tick m := by
    have hs : w.heap.size < W1.heap.size := by omega
    refine ⟨?_, ?_, ?_, ?_, ?_⟩
    · rw [cell_old _ _ _ (by simp; omega), cell_old _ _ _ (by simp; omega)]; exact HC1.out
    · exact (HM1.out.old _).old _
    · rw [cell_old _ _ _ (by simp; omega), HV.out]; exact cell_new _ _ _ _ _ _ hz1 rfl
    · exact cell_new _ _ _ _ _ _ (by simp; omega) rfl
    · exact HP1.out.below (((Below.refl _ _).alloc (Nat.le_refl _) _).alloc (by simp) _)
  have hb3 : Below w.heap.size w ((W1.alloc (.cells #[.pointer pv] 76)).alloc (.cells #[.bool (m.kind == 3)] 4)) := (HB1.out.alloc HB1.out.size _).alloc (by simp; omega) _
  have hz3 : ((W1.alloc (.cells #[.pointer pv] 76)).alloc (.cells #[.bool (m.kind == 3)] 4)).heap.size = w.heap.size + 2 + 1 + 1 := by simp; omega
  generalize (W1.alloc (.cells #[.pointer pv] 76)).alloc (.cells #[.bool (m.kind == 3)] 4) = W3 at hcap hb3 hz3 ⊢
  refine (WFirst.first_any (w.heap.size + 2 + 1 + 1) 6 (wrules w.heap.size (w.heap.size + 1) (w.heap.size + 2) (w.heap.size + 2 + 1) ks seq tick m) _ (by simp [wrules, maxLen]) (by simp; omega) ?_ ?_ ?_).mono ?_
  · intro i hi
    have hi' : i = 0 ∨ i = 1 ∨ i = 2 ∨ i = 3 ∨ i = 4 ∨ i = 5 := by simp [wrules] at hi; omega
    rcases hi' with rfl | rfl | rfl | rfl | rfl | rfl <;> exact ⟨cell_new _ _ _ _ _ _ hz3 rfl, cell_new _ _ _ _ _ _ hz3 rfl⟩
  · intro i hi
    have hi' : i = 0 ∨ i = 1 ∨ i = 2 ∨ i = 3 ∨ i = 4 ∨ i = 5 := by simp [wrules] at hi; omega
    rcases hi' with rfl | rfl | rfl | rfl | rfl | rfl
    · exact in1 _
    · exact in2 _
    · exact in3 _
    · exact in4 _
    · exact in5 _
    · exact in6 _
  · intro i hi hall w' hbb
    have hx := hcap.below (((Below.refl _ _).alloc (Nat.le_refl _) _).trans (hbb.mono (by simp)))
    have hi' : i = 0 ∨ i = 1 ∨ i = 2 ∨ i = 3 ∨ i = 4 ∨ i = 5 := by simp [wrules] at hi; omega
    have hk : 2 < i → (m.kind == 3) = true → (kOf ks m.sym).isSome = true := by
      intro h2 hk3
      have h3 := hall 2 h2
      have h3 : ((kOf ks m.sym).isSome || globalF m) = true := h3
      have hk3 : m.kind = 3 := by simpa using hk3
      have hg : globalF m = false := by simp [globalF, hk3]
      rw [hg, Bool.or_false] at h3
      exact h3
    rcases hi' with rfl | rfl | rfl | rfl | rfl | rfl
    · exact r1_any _ _ _ _ _ _ _ _ _ _ _ _ _ hx
    · exact r2_any _ _ _ _ _ _ _ _ _ _ _ _ _ hx
    · exact r3_any _ _ _ _ _ _ _ _ _ _ _ _ _ hx
    · exact r4_any _ _ _ _ _ _ _ _ _ _ _ _ _ hx
    · exact r5_any _ _ _ _ _ _ _ _ _ _ _ _ _ hx (hk (by omega))
    · exact r6_any _ _ _ _ _ _ _ _ _ _ _ _ _ hx (hk (by omega))
  · rintro e w2 ⟨rfl, hb2⟩
    rw [fault_wrules]
    go_wp2
    go_ret
    exact ⟨rfl, below_up (hb3.alloc hb3.size _) hb2⟩
end Go.Proofs.Ytggkhnmhhifniaa.Watch
