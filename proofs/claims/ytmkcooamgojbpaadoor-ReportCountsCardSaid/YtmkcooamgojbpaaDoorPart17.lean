/- Parts of the proof: PhW, PhR. -/
import Derived.Test.YtmkcooamgojbpaaDoorPart9
import Derived.Test.YtmkcooamgojbpaaDoorPart14
import Derived.Test.YtmkcooamgojbpaaDoorPart15
import Derived.Test.YtmkcooamgojbpaaDoorPart6
import Derived.Deep.DeepCutAuto
import Derived.Deep.CutBlock

/- report.Phases. -/
namespace Go.Proofs.YtmkcooamgojbpaaDoor.Phases
open Go.RowKit Go.Proofs.YtmkcooamgojbpaaDoor.Kit Go.Proofs.YtmkcooamgojbpaaDoor.Blk Go.Proofs.YtmkcooamgojbpaaDoor.Msgs Go.Proofs.YtmkcooamgojbpaaDoor.Octets
attribute [local go_sem ↓] Go.wp_at_zero Go.wp_at_succ
set_option linter.unusedVariables false

theorem is_any (m : Msg) (k s : Int) (w : World) : Calls Tryd.prog 122 #[.agg m.cells, .int .i64 k, .int .i64 s] w fun e w' => e = .returned (.bool (m.kind == k && m.sym == s)) ∧ Below w.heap.size w w' := by
  unfold Msg.cells
  cases h1 : (m.kind == k) with
  | false =>
    go_enter Tryd.func122, Tryd.ntmps122
    go_wp2_with fail
    go_ret
    exact ⟨rfl, (Below.refl _ _).alloc (Nat.le_refl _) _⟩
  | true =>
    go_enter Tryd.func122, Tryd.ntmps122
    go_wp2_with fail
    go_ret
    exact ⟨by rw [Bool.true_and]; rfl, (Below.refl _ _).alloc (Nat.le_refl _) _⟩
/-- The clock in memory. -/
def Ph.cells (x : Ph) : Array Value := #[.int .i64 x.p, .int .i64 x.t, .int .i64 x.s.a, .int .i64 x.s.b, .int .i64 x.s.c, .int .i64 x.s.d, .int .i64 x.s.e, .int .i64 x.s.f]
set_option maxRecDepth 20000 in
theorem turn_any (K : Nat) (x : Ph) (lim code n : Int) (w : World) (h : Blk w K x.cells 177) (hx : PhOk lim x) (ht : x.t ≤ n) (hn : n ≤ lim) (hl : lim ≤ 9223372036854775807) :
    Calls Tryd.prog 121 #[.pointer (some ⟨K, 0, none⟩), .int .i64 code, .int .i64 n] w fun e w' => e = .returned (.tuple #[]) ∧ Blk w' K (turnF x code n).cells 177 ∧ Chg w.heap.size K w w' := by
  obtain ⟨⟨p0, p5⟩, ⟨t0, t1⟩, ⟨⟨ha, hb, hc⟩, hd, he, hf⟩, hs⟩ := hx
  obtain ⟨p, t, s⟩ := x
  dsimp only at *
  have hp : p = 0 ∨ p = 1 ∨ p = 2 ∨ p = 3 ∨ p = 4 ∨ p = 5 := by omega
  rcases hp with rfl | rfl | rfl | rfl | rfl | rfl
  · have H1 := Lib.hid (h.drew.set 2 (.int .i64 (s.a + (n - t))))
    have HS := Lib.hid (((h.drew.set 2 (.int .i64 (s.a + (n - t)))).set 0 (.int .i64 code)).set 1 (.int .i64 n))
    have c0 : w.drew.cell? ⟨K, 0, none⟩ = some (.int .i64 0) := h.cell 0 rfl
    have c1 : w.drew.cell? ⟨K, 1, none⟩ = some (.int .i64 t) := h.cell 1 rfl
    have cs : w.drew.cell? ⟨K, 2, none⟩ = some (.int .i64 s.a) := h.cell 2 rfl
    have fs : w.drew.frozen? ⟨K, 2, none⟩ = false := h.free 2
    have hw1 : IntKind.i64.wrap (n - t) = n - t := wrap_ok (by omega) (by omega)
    have hw2 : IntKind.i64.wrap (s.a + (n - t)) = s.a + (n - t) := wrap_ok (by omega) (by omega)
    have HC := Lib.hid (show Chg w.heap.size K w (((w.drew.setCell ⟨K, 2, none⟩ (.int .i64 (s.a + (n - t)))).setCell ⟨K, 0, none⟩ (.int .i64 code)).setCell ⟨K, 1, none⟩ (.int .i64 n)) from (((Chg.refl _ _ _).drew.setCell ⟨K, 2, none⟩ _ (.inl rfl)).setCell ⟨K, 0, none⟩ _ (.inl rfl)).setCell ⟨K, 1, none⟩ _ (.inl rfl))
    clear h
    go_enter Tryd.func121, Tryd.ntmps121
    go_upto_region 0 with fail
    refine Go.Proofs.YtmkcooamgojbpaaDoor.Veil.start 19 (by kernel_rfl) (by kernel_rfl) ?_
    simp only [List.take_succ_cons, List.take_zero, List.drop_succ_cons, List.drop_zero]
    (refine Go.Proofs.YtmkcooamgojbpaaDoor.Veil.step (fun K hK => ?_); go_simp; refine hK _ ?_; clear hK K)
    (refine Go.Proofs.YtmkcooamgojbpaaDoor.Veil.step (fun K hK => ?_); go_simp; refine hK _ ?_; clear hK K)
    (refine Go.Proofs.YtmkcooamgojbpaaDoor.Veil.step (fun K hK => ?_); go_simp; refine hK _ ?_; clear hK K)
    (refine Go.Proofs.YtmkcooamgojbpaaDoor.Veil.step (fun K hK => ?_); go_simp; refine hK _ ?_; clear hK K)
    (refine Go.Proofs.YtmkcooamgojbpaaDoor.Veil.step (fun K hK => ?_); go_simp; refine hK _ ?_; clear hK K)
    (refine Go.Proofs.YtmkcooamgojbpaaDoor.Veil.step (fun K hK => ?_); go_simp; refine hK _ ?_; clear hK K)
    (refine Go.Proofs.YtmkcooamgojbpaaDoor.Veil.step (fun K hK => ?_); go_simp; refine hK _ ?_; clear hK K)
    (refine Go.Proofs.YtmkcooamgojbpaaDoor.Veil.step (fun K hK => ?_); go_simp; refine hK _ ?_; clear hK K)
    (refine Go.Proofs.YtmkcooamgojbpaaDoor.Veil.step (fun K hK => ?_); go_simp; refine hK _ ?_; clear hK K)
    (refine Go.Proofs.YtmkcooamgojbpaaDoor.Veil.step (fun K hK => ?_); go_simp; refine hK _ ?_; clear hK K)
    (refine Go.Proofs.YtmkcooamgojbpaaDoor.Veil.step (fun K hK => ?_); go_simp; refine hK _ ?_; clear hK K)
    (refine Go.Proofs.YtmkcooamgojbpaaDoor.Veil.step (fun K hK => ?_); go_simp; refine hK _ ?_; clear hK K)
    (refine Go.Proofs.YtmkcooamgojbpaaDoor.Veil.step (fun K hK => ?_); go_simp; refine hK _ ?_; clear hK K)
    (refine Go.Proofs.YtmkcooamgojbpaaDoor.Veil.step (fun K hK => ?_); go_simp; refine hK _ ?_; clear hK K)
    (refine Go.Proofs.YtmkcooamgojbpaaDoor.Veil.step (fun K hK => ?_); go_simp; refine hK _ ?_; clear hK K)
    (refine Go.Proofs.YtmkcooamgojbpaaDoor.Veil.step (fun K hK => ?_); go_simp; refine hK _ ?_; clear hK K)
    (refine Go.Proofs.YtmkcooamgojbpaaDoor.Veil.step (fun K hK => ?_); go_simp; refine hK _ ?_; clear hK K)
    (refine Go.Proofs.YtmkcooamgojbpaaDoor.Veil.step (fun K hK => ?_); go_simp; refine hK _ ?_; clear hK K)
    (refine Go.Proofs.YtmkcooamgojbpaaDoor.Veil.step (fun K hK => ?_); go_simp; refine hK _ ?_; clear hK K)
    refine Go.Proofs.YtmkcooamgojbpaaDoor.Veil.nil ?_
    change wpList _ _ _ _ _ w.drew
    go_upto_region 1 with fail
    change Code.wp _ _ _ _ (w.drew.setCell ⟨K, 2, none⟩ (.int .i64 (s.a + (n - t))))
    clear c0 c1 cs fs
    generalize w.drew.setCell ⟨K, 2, none⟩ (.int .i64 (s.a + (n - t))) = w1 at HS H1 HC ⊢
    have c0 : w1.cell? ⟨K, 0, none⟩ = some (.int .i64 0) := H1.out.cell 0 rfl
    have c1 : w1.cell? ⟨K, 1, none⟩ = some (.int .i64 t) := H1.out.cell 1 rfl
    have f0 := H1.out.free 0
    have f1 := H1.out.free 1
    go_wp2_with fail
    go_end0
    exact ⟨rfl, by simpa [Ph.cells, turnF, Six.add] using HS.out, HC.out⟩
  · have H1 := Lib.hid (h.drew.set 3 (.int .i64 (s.b + (n - t))))
    have HS := Lib.hid (((h.drew.set 3 (.int .i64 (s.b + (n - t)))).set 0 (.int .i64 code)).set 1 (.int .i64 n))
    have c0 : w.drew.cell? ⟨K, 0, none⟩ = some (.int .i64 1) := h.cell 0 rfl
    have c1 : w.drew.cell? ⟨K, 1, none⟩ = some (.int .i64 t) := h.cell 1 rfl
    have cs : w.drew.cell? ⟨K, 3, none⟩ = some (.int .i64 s.b) := h.cell 3 rfl
    have fs : w.drew.frozen? ⟨K, 3, none⟩ = false := h.free 3
    have hw1 : IntKind.i64.wrap (n - t) = n - t := wrap_ok (by omega) (by omega)
    have hw2 : IntKind.i64.wrap (s.b + (n - t)) = s.b + (n - t) := wrap_ok (by omega) (by omega)
    have HC := Lib.hid (show Chg w.heap.size K w (((w.drew.setCell ⟨K, 3, none⟩ (.int .i64 (s.b + (n - t)))).setCell ⟨K, 0, none⟩ (.int .i64 code)).setCell ⟨K, 1, none⟩ (.int .i64 n)) from (((Chg.refl _ _ _).drew.setCell ⟨K, 3, none⟩ _ (.inl rfl)).setCell ⟨K, 0, none⟩ _ (.inl rfl)).setCell ⟨K, 1, none⟩ _ (.inl rfl))
    clear h
    go_enter Tryd.func121, Tryd.ntmps121
    go_upto_region 0 with fail
    refine Go.Proofs.YtmkcooamgojbpaaDoor.Veil.start 19 (by kernel_rfl) (by kernel_rfl) ?_
    simp only [List.take_succ_cons, List.take_zero, List.drop_succ_cons, List.drop_zero]
    (refine Go.Proofs.YtmkcooamgojbpaaDoor.Veil.step (fun K hK => ?_); go_simp; refine hK _ ?_; clear hK K)
    (refine Go.Proofs.YtmkcooamgojbpaaDoor.Veil.step (fun K hK => ?_); go_simp; refine hK _ ?_; clear hK K)
    (refine Go.Proofs.YtmkcooamgojbpaaDoor.Veil.step (fun K hK => ?_); go_simp; refine hK _ ?_; clear hK K)
    (refine Go.Proofs.YtmkcooamgojbpaaDoor.Veil.step (fun K hK => ?_); go_simp; refine hK _ ?_; clear hK K)
    (refine Go.Proofs.YtmkcooamgojbpaaDoor.Veil.step (fun K hK => ?_); go_simp; refine hK _ ?_; clear hK K)
    (refine Go.Proofs.YtmkcooamgojbpaaDoor.Veil.step (fun K hK => ?_); go_simp; refine hK _ ?_; clear hK K)
    (refine Go.Proofs.YtmkcooamgojbpaaDoor.Veil.step (fun K hK => ?_); go_simp; refine hK _ ?_; clear hK K)
    (refine Go.Proofs.YtmkcooamgojbpaaDoor.Veil.step (fun K hK => ?_); go_simp; refine hK _ ?_; clear hK K)
    (refine Go.Proofs.YtmkcooamgojbpaaDoor.Veil.step (fun K hK => ?_); go_simp; refine hK _ ?_; clear hK K)
    (refine Go.Proofs.YtmkcooamgojbpaaDoor.Veil.step (fun K hK => ?_); go_simp; refine hK _ ?_; clear hK K)
    (refine Go.Proofs.YtmkcooamgojbpaaDoor.Veil.step (fun K hK => ?_); go_simp; refine hK _ ?_; clear hK K)
    (refine Go.Proofs.YtmkcooamgojbpaaDoor.Veil.step (fun K hK => ?_); go_simp; refine hK _ ?_; clear hK K)
    (refine Go.Proofs.YtmkcooamgojbpaaDoor.Veil.step (fun K hK => ?_); go_simp; refine hK _ ?_; clear hK K)
    (refine Go.Proofs.YtmkcooamgojbpaaDoor.Veil.step (fun K hK => ?_); go_simp; refine hK _ ?_; clear hK K)
    (refine Go.Proofs.YtmkcooamgojbpaaDoor.Veil.step (fun K hK => ?_); go_simp; refine hK _ ?_; clear hK K)
    (refine Go.Proofs.YtmkcooamgojbpaaDoor.Veil.step (fun K hK => ?_); go_simp; refine hK _ ?_; clear hK K)
    (refine Go.Proofs.YtmkcooamgojbpaaDoor.Veil.step (fun K hK => ?_); go_simp; refine hK _ ?_; clear hK K)
    (refine Go.Proofs.YtmkcooamgojbpaaDoor.Veil.step (fun K hK => ?_); go_simp; refine hK _ ?_; clear hK K)
    (refine Go.Proofs.YtmkcooamgojbpaaDoor.Veil.step (fun K hK => ?_); go_simp; refine hK _ ?_; clear hK K)
    refine Go.Proofs.YtmkcooamgojbpaaDoor.Veil.nil ?_
    change wpList _ _ _ _ _ w.drew
    go_upto_region 1 with fail
    change Code.wp _ _ _ _ (w.drew.setCell ⟨K, 3, none⟩ (.int .i64 (s.b + (n - t))))
    clear c0 c1 cs fs
    generalize w.drew.setCell ⟨K, 3, none⟩ (.int .i64 (s.b + (n - t))) = w1 at HS H1 HC ⊢
    have c0 : w1.cell? ⟨K, 0, none⟩ = some (.int .i64 1) := H1.out.cell 0 rfl
    have c1 : w1.cell? ⟨K, 1, none⟩ = some (.int .i64 t) := H1.out.cell 1 rfl
    have f0 := H1.out.free 0
    have f1 := H1.out.free 1
    go_wp2_with fail
    go_end0
    exact ⟨rfl, by simpa [Ph.cells, turnF, Six.add] using HS.out, HC.out⟩
  · have H1 := Lib.hid (h.drew.set 4 (.int .i64 (s.c + (n - t))))
    have HS := Lib.hid (((h.drew.set 4 (.int .i64 (s.c + (n - t)))).set 0 (.int .i64 code)).set 1 (.int .i64 n))
    have c0 : w.drew.cell? ⟨K, 0, none⟩ = some (.int .i64 2) := h.cell 0 rfl
    have c1 : w.drew.cell? ⟨K, 1, none⟩ = some (.int .i64 t) := h.cell 1 rfl
    have cs : w.drew.cell? ⟨K, 4, none⟩ = some (.int .i64 s.c) := h.cell 4 rfl
    have fs : w.drew.frozen? ⟨K, 4, none⟩ = false := h.free 4
    have hw1 : IntKind.i64.wrap (n - t) = n - t := wrap_ok (by omega) (by omega)
    have hw2 : IntKind.i64.wrap (s.c + (n - t)) = s.c + (n - t) := wrap_ok (by omega) (by omega)
    have HC := Lib.hid (show Chg w.heap.size K w (((w.drew.setCell ⟨K, 4, none⟩ (.int .i64 (s.c + (n - t)))).setCell ⟨K, 0, none⟩ (.int .i64 code)).setCell ⟨K, 1, none⟩ (.int .i64 n)) from (((Chg.refl _ _ _).drew.setCell ⟨K, 4, none⟩ _ (.inl rfl)).setCell ⟨K, 0, none⟩ _ (.inl rfl)).setCell ⟨K, 1, none⟩ _ (.inl rfl))
    clear h
    go_enter Tryd.func121, Tryd.ntmps121
    go_upto_region 0 with fail
    refine Go.Proofs.YtmkcooamgojbpaaDoor.Veil.start 19 (by kernel_rfl) (by kernel_rfl) ?_
    simp only [List.take_succ_cons, List.take_zero, List.drop_succ_cons, List.drop_zero]
    (refine Go.Proofs.YtmkcooamgojbpaaDoor.Veil.step (fun K hK => ?_); go_simp; refine hK _ ?_; clear hK K)
    (refine Go.Proofs.YtmkcooamgojbpaaDoor.Veil.step (fun K hK => ?_); go_simp; refine hK _ ?_; clear hK K)
    (refine Go.Proofs.YtmkcooamgojbpaaDoor.Veil.step (fun K hK => ?_); go_simp; refine hK _ ?_; clear hK K)
    (refine Go.Proofs.YtmkcooamgojbpaaDoor.Veil.step (fun K hK => ?_); go_simp; refine hK _ ?_; clear hK K)
    (refine Go.Proofs.YtmkcooamgojbpaaDoor.Veil.step (fun K hK => ?_); go_simp; refine hK _ ?_; clear hK K)
    (refine Go.Proofs.YtmkcooamgojbpaaDoor.Veil.step (fun K hK => ?_); go_simp; refine hK _ ?_; clear hK K)
    (refine Go.Proofs.YtmkcooamgojbpaaDoor.Veil.step (fun K hK => ?_); go_simp; refine hK _ ?_; clear hK K)
    (refine Go.Proofs.YtmkcooamgojbpaaDoor.Veil.step (fun K hK => ?_); go_simp; refine hK _ ?_; clear hK K)
    (refine Go.Proofs.YtmkcooamgojbpaaDoor.Veil.step (fun K hK => ?_); go_simp; refine hK _ ?_; clear hK K)
    (refine Go.Proofs.YtmkcooamgojbpaaDoor.Veil.step (fun K hK => ?_); go_simp; refine hK _ ?_; clear hK K)
    (refine Go.Proofs.YtmkcooamgojbpaaDoor.Veil.step (fun K hK => ?_); go_simp; refine hK _ ?_; clear hK K)
    (refine Go.Proofs.YtmkcooamgojbpaaDoor.Veil.step (fun K hK => ?_); go_simp; refine hK _ ?_; clear hK K)
    (refine Go.Proofs.YtmkcooamgojbpaaDoor.Veil.step (fun K hK => ?_); go_simp; refine hK _ ?_; clear hK K)
    (refine Go.Proofs.YtmkcooamgojbpaaDoor.Veil.step (fun K hK => ?_); go_simp; refine hK _ ?_; clear hK K)
    (refine Go.Proofs.YtmkcooamgojbpaaDoor.Veil.step (fun K hK => ?_); go_simp; refine hK _ ?_; clear hK K)
    (refine Go.Proofs.YtmkcooamgojbpaaDoor.Veil.step (fun K hK => ?_); go_simp; refine hK _ ?_; clear hK K)
    (refine Go.Proofs.YtmkcooamgojbpaaDoor.Veil.step (fun K hK => ?_); go_simp; refine hK _ ?_; clear hK K)
    (refine Go.Proofs.YtmkcooamgojbpaaDoor.Veil.step (fun K hK => ?_); go_simp; refine hK _ ?_; clear hK K)
    (refine Go.Proofs.YtmkcooamgojbpaaDoor.Veil.step (fun K hK => ?_); go_simp; refine hK _ ?_; clear hK K)
    refine Go.Proofs.YtmkcooamgojbpaaDoor.Veil.nil ?_
    change wpList _ _ _ _ _ w.drew
    go_upto_region 1 with fail
    change Code.wp _ _ _ _ (w.drew.setCell ⟨K, 4, none⟩ (.int .i64 (s.c + (n - t))))
    clear c0 c1 cs fs
    generalize w.drew.setCell ⟨K, 4, none⟩ (.int .i64 (s.c + (n - t))) = w1 at HS H1 HC ⊢
    have c0 : w1.cell? ⟨K, 0, none⟩ = some (.int .i64 2) := H1.out.cell 0 rfl
    have c1 : w1.cell? ⟨K, 1, none⟩ = some (.int .i64 t) := H1.out.cell 1 rfl
    have f0 := H1.out.free 0
    have f1 := H1.out.free 1
    go_wp2_with fail
    go_end0
    exact ⟨rfl, by simpa [Ph.cells, turnF, Six.add] using HS.out, HC.out⟩
  · have H1 := Lib.hid (h.drew.set 5 (.int .i64 (s.d + (n - t))))
    have HS := Lib.hid (((h.drew.set 5 (.int .i64 (s.d + (n - t)))).set 0 (.int .i64 code)).set 1 (.int .i64 n))
    have c0 : w.drew.cell? ⟨K, 0, none⟩ = some (.int .i64 3) := h.cell 0 rfl
    have c1 : w.drew.cell? ⟨K, 1, none⟩ = some (.int .i64 t) := h.cell 1 rfl
    have cs : w.drew.cell? ⟨K, 5, none⟩ = some (.int .i64 s.d) := h.cell 5 rfl
    have fs : w.drew.frozen? ⟨K, 5, none⟩ = false := h.free 5
    have hw1 : IntKind.i64.wrap (n - t) = n - t := wrap_ok (by omega) (by omega)
    have hw2 : IntKind.i64.wrap (s.d + (n - t)) = s.d + (n - t) := wrap_ok (by omega) (by omega)
    have HC := Lib.hid (show Chg w.heap.size K w (((w.drew.setCell ⟨K, 5, none⟩ (.int .i64 (s.d + (n - t)))).setCell ⟨K, 0, none⟩ (.int .i64 code)).setCell ⟨K, 1, none⟩ (.int .i64 n)) from (((Chg.refl _ _ _).drew.setCell ⟨K, 5, none⟩ _ (.inl rfl)).setCell ⟨K, 0, none⟩ _ (.inl rfl)).setCell ⟨K, 1, none⟩ _ (.inl rfl))
    clear h
    go_enter Tryd.func121, Tryd.ntmps121
    go_upto_region 0 with fail
    refine Go.Proofs.YtmkcooamgojbpaaDoor.Veil.start 19 (by kernel_rfl) (by kernel_rfl) ?_
    simp only [List.take_succ_cons, List.take_zero, List.drop_succ_cons, List.drop_zero]
    (refine Go.Proofs.YtmkcooamgojbpaaDoor.Veil.step (fun K hK => ?_); go_simp; refine hK _ ?_; clear hK K)
    (refine Go.Proofs.YtmkcooamgojbpaaDoor.Veil.step (fun K hK => ?_); go_simp; refine hK _ ?_; clear hK K)
    (refine Go.Proofs.YtmkcooamgojbpaaDoor.Veil.step (fun K hK => ?_); go_simp; refine hK _ ?_; clear hK K)
    (refine Go.Proofs.YtmkcooamgojbpaaDoor.Veil.step (fun K hK => ?_); go_simp; refine hK _ ?_; clear hK K)
    (refine Go.Proofs.YtmkcooamgojbpaaDoor.Veil.step (fun K hK => ?_); go_simp; refine hK _ ?_; clear hK K)
    (refine Go.Proofs.YtmkcooamgojbpaaDoor.Veil.step (fun K hK => ?_); go_simp; refine hK _ ?_; clear hK K)
    (refine Go.Proofs.YtmkcooamgojbpaaDoor.Veil.step (fun K hK => ?_); go_simp; refine hK _ ?_; clear hK K)
    (refine Go.Proofs.YtmkcooamgojbpaaDoor.Veil.step (fun K hK => ?_); go_simp; refine hK _ ?_; clear hK K)
    (refine Go.Proofs.YtmkcooamgojbpaaDoor.Veil.step (fun K hK => ?_); go_simp; refine hK _ ?_; clear hK K)
    (refine Go.Proofs.YtmkcooamgojbpaaDoor.Veil.step (fun K hK => ?_); go_simp; refine hK _ ?_; clear hK K)
    (refine Go.Proofs.YtmkcooamgojbpaaDoor.Veil.step (fun K hK => ?_); go_simp; refine hK _ ?_; clear hK K)
    (refine Go.Proofs.YtmkcooamgojbpaaDoor.Veil.step (fun K hK => ?_); go_simp; refine hK _ ?_; clear hK K)
    (refine Go.Proofs.YtmkcooamgojbpaaDoor.Veil.step (fun K hK => ?_); go_simp; refine hK _ ?_; clear hK K)
    (refine Go.Proofs.YtmkcooamgojbpaaDoor.Veil.step (fun K hK => ?_); go_simp; refine hK _ ?_; clear hK K)
    (refine Go.Proofs.YtmkcooamgojbpaaDoor.Veil.step (fun K hK => ?_); go_simp; refine hK _ ?_; clear hK K)
    (refine Go.Proofs.YtmkcooamgojbpaaDoor.Veil.step (fun K hK => ?_); go_simp; refine hK _ ?_; clear hK K)
    (refine Go.Proofs.YtmkcooamgojbpaaDoor.Veil.step (fun K hK => ?_); go_simp; refine hK _ ?_; clear hK K)
    (refine Go.Proofs.YtmkcooamgojbpaaDoor.Veil.step (fun K hK => ?_); go_simp; refine hK _ ?_; clear hK K)
    (refine Go.Proofs.YtmkcooamgojbpaaDoor.Veil.step (fun K hK => ?_); go_simp; refine hK _ ?_; clear hK K)
    refine Go.Proofs.YtmkcooamgojbpaaDoor.Veil.nil ?_
    change wpList _ _ _ _ _ w.drew
    go_upto_region 1 with fail
    change Code.wp _ _ _ _ (w.drew.setCell ⟨K, 5, none⟩ (.int .i64 (s.d + (n - t))))
    clear c0 c1 cs fs
    generalize w.drew.setCell ⟨K, 5, none⟩ (.int .i64 (s.d + (n - t))) = w1 at HS H1 HC ⊢
    have c0 : w1.cell? ⟨K, 0, none⟩ = some (.int .i64 3) := H1.out.cell 0 rfl
    have c1 : w1.cell? ⟨K, 1, none⟩ = some (.int .i64 t) := H1.out.cell 1 rfl
    have f0 := H1.out.free 0
    have f1 := H1.out.free 1
    go_wp2_with fail
    go_end0
    exact ⟨rfl, by simpa [Ph.cells, turnF, Six.add] using HS.out, HC.out⟩
  · have H1 := Lib.hid (h.drew.set 6 (.int .i64 (s.e + (n - t))))
    have HS := Lib.hid (((h.drew.set 6 (.int .i64 (s.e + (n - t)))).set 0 (.int .i64 code)).set 1 (.int .i64 n))
    have c0 : w.drew.cell? ⟨K, 0, none⟩ = some (.int .i64 4) := h.cell 0 rfl
    have c1 : w.drew.cell? ⟨K, 1, none⟩ = some (.int .i64 t) := h.cell 1 rfl
    have cs : w.drew.cell? ⟨K, 6, none⟩ = some (.int .i64 s.e) := h.cell 6 rfl
    have fs : w.drew.frozen? ⟨K, 6, none⟩ = false := h.free 6
    have hw1 : IntKind.i64.wrap (n - t) = n - t := wrap_ok (by omega) (by omega)
    have hw2 : IntKind.i64.wrap (s.e + (n - t)) = s.e + (n - t) := wrap_ok (by omega) (by omega)
    have HC := Lib.hid (show Chg w.heap.size K w (((w.drew.setCell ⟨K, 6, none⟩ (.int .i64 (s.e + (n - t)))).setCell ⟨K, 0, none⟩ (.int .i64 code)).setCell ⟨K, 1, none⟩ (.int .i64 n)) from (((Chg.refl _ _ _).drew.setCell ⟨K, 6, none⟩ _ (.inl rfl)).setCell ⟨K, 0, none⟩ _ (.inl rfl)).setCell ⟨K, 1, none⟩ _ (.inl rfl))
    clear h
    go_enter Tryd.func121, Tryd.ntmps121
    go_upto_region 0 with fail
    refine Go.Proofs.YtmkcooamgojbpaaDoor.Veil.start 19 (by kernel_rfl) (by kernel_rfl) ?_
    simp only [List.take_succ_cons, List.take_zero, List.drop_succ_cons, List.drop_zero]
    (refine Go.Proofs.YtmkcooamgojbpaaDoor.Veil.step (fun K hK => ?_); go_simp; refine hK _ ?_; clear hK K)
    (refine Go.Proofs.YtmkcooamgojbpaaDoor.Veil.step (fun K hK => ?_); go_simp; refine hK _ ?_; clear hK K)
    (refine Go.Proofs.YtmkcooamgojbpaaDoor.Veil.step (fun K hK => ?_); go_simp; refine hK _ ?_; clear hK K)
    (refine Go.Proofs.YtmkcooamgojbpaaDoor.Veil.step (fun K hK => ?_); go_simp; refine hK _ ?_; clear hK K)
    (refine Go.Proofs.YtmkcooamgojbpaaDoor.Veil.step (fun K hK => ?_); go_simp; refine hK _ ?_; clear hK K)
    (refine Go.Proofs.YtmkcooamgojbpaaDoor.Veil.step (fun K hK => ?_); go_simp; refine hK _ ?_; clear hK K)
    (refine Go.Proofs.YtmkcooamgojbpaaDoor.Veil.step (fun K hK => ?_); go_simp; refine hK _ ?_; clear hK K)
    (refine Go.Proofs.YtmkcooamgojbpaaDoor.Veil.step (fun K hK => ?_); go_simp; refine hK _ ?_; clear hK K)
    (refine Go.Proofs.YtmkcooamgojbpaaDoor.Veil.step (fun K hK => ?_); go_simp; refine hK _ ?_; clear hK K)
    (refine Go.Proofs.YtmkcooamgojbpaaDoor.Veil.step (fun K hK => ?_); go_simp; refine hK _ ?_; clear hK K)
    (refine Go.Proofs.YtmkcooamgojbpaaDoor.Veil.step (fun K hK => ?_); go_simp; refine hK _ ?_; clear hK K)
    (refine Go.Proofs.YtmkcooamgojbpaaDoor.Veil.step (fun K hK => ?_); go_simp; refine hK _ ?_; clear hK K)
    (refine Go.Proofs.YtmkcooamgojbpaaDoor.Veil.step (fun K hK => ?_); go_simp; refine hK _ ?_; clear hK K)
    (refine Go.Proofs.YtmkcooamgojbpaaDoor.Veil.step (fun K hK => ?_); go_simp; refine hK _ ?_; clear hK K)
    (refine Go.Proofs.YtmkcooamgojbpaaDoor.Veil.step (fun K hK => ?_); go_simp; refine hK _ ?_; clear hK K)
    (refine Go.Proofs.YtmkcooamgojbpaaDoor.Veil.step (fun K hK => ?_); go_simp; refine hK _ ?_; clear hK K)
    (refine Go.Proofs.YtmkcooamgojbpaaDoor.Veil.step (fun K hK => ?_); go_simp; refine hK _ ?_; clear hK K)
    (refine Go.Proofs.YtmkcooamgojbpaaDoor.Veil.step (fun K hK => ?_); go_simp; refine hK _ ?_; clear hK K)
    (refine Go.Proofs.YtmkcooamgojbpaaDoor.Veil.step (fun K hK => ?_); go_simp; refine hK _ ?_; clear hK K)
    refine Go.Proofs.YtmkcooamgojbpaaDoor.Veil.nil ?_
    change wpList _ _ _ _ _ w.drew
    go_upto_region 1 with fail
    change Code.wp _ _ _ _ (w.drew.setCell ⟨K, 6, none⟩ (.int .i64 (s.e + (n - t))))
    clear c0 c1 cs fs
    generalize w.drew.setCell ⟨K, 6, none⟩ (.int .i64 (s.e + (n - t))) = w1 at HS H1 HC ⊢
    have c0 : w1.cell? ⟨K, 0, none⟩ = some (.int .i64 4) := H1.out.cell 0 rfl
    have c1 : w1.cell? ⟨K, 1, none⟩ = some (.int .i64 t) := H1.out.cell 1 rfl
    have f0 := H1.out.free 0
    have f1 := H1.out.free 1
    go_wp2_with fail
    go_end0
    exact ⟨rfl, by simpa [Ph.cells, turnF, Six.add] using HS.out, HC.out⟩
  · have H1 := Lib.hid (h.drew.set 7 (.int .i64 (s.f + (n - t))))
    have HS := Lib.hid (((h.drew.set 7 (.int .i64 (s.f + (n - t)))).set 0 (.int .i64 code)).set 1 (.int .i64 n))
    have c0 : w.drew.cell? ⟨K, 0, none⟩ = some (.int .i64 5) := h.cell 0 rfl
    have c1 : w.drew.cell? ⟨K, 1, none⟩ = some (.int .i64 t) := h.cell 1 rfl
    have cs : w.drew.cell? ⟨K, 7, none⟩ = some (.int .i64 s.f) := h.cell 7 rfl
    have fs : w.drew.frozen? ⟨K, 7, none⟩ = false := h.free 7
    have hw1 : IntKind.i64.wrap (n - t) = n - t := wrap_ok (by omega) (by omega)
    have hw2 : IntKind.i64.wrap (s.f + (n - t)) = s.f + (n - t) := wrap_ok (by omega) (by omega)
    have HC := Lib.hid (show Chg w.heap.size K w (((w.drew.setCell ⟨K, 7, none⟩ (.int .i64 (s.f + (n - t)))).setCell ⟨K, 0, none⟩ (.int .i64 code)).setCell ⟨K, 1, none⟩ (.int .i64 n)) from (((Chg.refl _ _ _).drew.setCell ⟨K, 7, none⟩ _ (.inl rfl)).setCell ⟨K, 0, none⟩ _ (.inl rfl)).setCell ⟨K, 1, none⟩ _ (.inl rfl))
    clear h
    go_enter Tryd.func121, Tryd.ntmps121
    go_upto_region 0 with fail
    refine Go.Proofs.YtmkcooamgojbpaaDoor.Veil.start 19 (by kernel_rfl) (by kernel_rfl) ?_
    simp only [List.take_succ_cons, List.take_zero, List.drop_succ_cons, List.drop_zero]
    (refine Go.Proofs.YtmkcooamgojbpaaDoor.Veil.step (fun K hK => ?_); go_simp; refine hK _ ?_; clear hK K)
    (refine Go.Proofs.YtmkcooamgojbpaaDoor.Veil.step (fun K hK => ?_); go_simp; refine hK _ ?_; clear hK K)
    (refine Go.Proofs.YtmkcooamgojbpaaDoor.Veil.step (fun K hK => ?_); go_simp; refine hK _ ?_; clear hK K)
    (refine Go.Proofs.YtmkcooamgojbpaaDoor.Veil.step (fun K hK => ?_); go_simp; refine hK _ ?_; clear hK K)
    (refine Go.Proofs.YtmkcooamgojbpaaDoor.Veil.step (fun K hK => ?_); go_simp; refine hK _ ?_; clear hK K)
    (refine Go.Proofs.YtmkcooamgojbpaaDoor.Veil.step (fun K hK => ?_); go_simp; refine hK _ ?_; clear hK K)
    (refine Go.Proofs.YtmkcooamgojbpaaDoor.Veil.step (fun K hK => ?_); go_simp; refine hK _ ?_; clear hK K)
    (refine Go.Proofs.YtmkcooamgojbpaaDoor.Veil.step (fun K hK => ?_); go_simp; refine hK _ ?_; clear hK K)
    (refine Go.Proofs.YtmkcooamgojbpaaDoor.Veil.step (fun K hK => ?_); go_simp; refine hK _ ?_; clear hK K)
    (refine Go.Proofs.YtmkcooamgojbpaaDoor.Veil.step (fun K hK => ?_); go_simp; refine hK _ ?_; clear hK K)
    (refine Go.Proofs.YtmkcooamgojbpaaDoor.Veil.step (fun K hK => ?_); go_simp; refine hK _ ?_; clear hK K)
    (refine Go.Proofs.YtmkcooamgojbpaaDoor.Veil.step (fun K hK => ?_); go_simp; refine hK _ ?_; clear hK K)
    (refine Go.Proofs.YtmkcooamgojbpaaDoor.Veil.step (fun K hK => ?_); go_simp; refine hK _ ?_; clear hK K)
    (refine Go.Proofs.YtmkcooamgojbpaaDoor.Veil.step (fun K hK => ?_); go_simp; refine hK _ ?_; clear hK K)
    (refine Go.Proofs.YtmkcooamgojbpaaDoor.Veil.step (fun K hK => ?_); go_simp; refine hK _ ?_; clear hK K)
    (refine Go.Proofs.YtmkcooamgojbpaaDoor.Veil.step (fun K hK => ?_); go_simp; refine hK _ ?_; clear hK K)
    (refine Go.Proofs.YtmkcooamgojbpaaDoor.Veil.step (fun K hK => ?_); go_simp; refine hK _ ?_; clear hK K)
    (refine Go.Proofs.YtmkcooamgojbpaaDoor.Veil.step (fun K hK => ?_); go_simp; refine hK _ ?_; clear hK K)
    (refine Go.Proofs.YtmkcooamgojbpaaDoor.Veil.step (fun K hK => ?_); go_simp; refine hK _ ?_; clear hK K)
    refine Go.Proofs.YtmkcooamgojbpaaDoor.Veil.nil ?_
    change wpList _ _ _ _ _ w.drew
    go_upto_region 1 with fail
    change Code.wp _ _ _ _ (w.drew.setCell ⟨K, 7, none⟩ (.int .i64 (s.f + (n - t))))
    clear c0 c1 cs fs
    generalize w.drew.setCell ⟨K, 7, none⟩ (.int .i64 (s.f + (n - t))) = w1 at HS H1 HC ⊢
    have c0 : w1.cell? ⟨K, 0, none⟩ = some (.int .i64 5) := H1.out.cell 0 rfl
    have c1 : w1.cell? ⟨K, 1, none⟩ = some (.int .i64 t) := H1.out.cell 1 rfl
    have f0 := H1.out.free 0
    have f1 := H1.out.free 1
    go_wp2_with fail
    go_end0
    exact ⟨rfl, by simpa [Ph.cells, turnF, Six.add] using HS.out, HC.out⟩
/-- What Phases answers. -/
def PhasesIs (s : Six) (w : World) (e : Ending) (w' : World) : Prop := e = .returned (.agg s.cells) ∧ Below w.heap.size w w'
/-- The clock, and the block of the answer. -/
structure PK (w : World) (x : Ph) (W : World) : Prop where
  ab : Blk W w.heap.size six0.cells 87
  kb : Blk W (w.heap.size + 1) x.cells 177
  bel : Below w.heap.size w W
section
variable {w W W' : World} {x y : Ph}
theorem PK.below (h : PK w x W) (hb : Below W.heap.size W W') : PK w x W' := ⟨h.ab.below hb h.ab.lt, h.kb.below hb h.kb.lt, h.bel.trans (hb.mono h.bel.size)⟩
theorem PK.turn (h : PK w x W) (hk : Blk W' (w.heap.size + 1) y.cells 177) (hc : Chg W.heap.size (w.heap.size + 1) W W') : PK w y W' :=
  ⟨hc.blk h.ab.lt (by omega) h.ab, hk, h.bel.trans (hc.below' (m := w.heap.size) (by omega) h.bel.size)⟩
theorem pk_start (w : World) : PK w ph0 ((w.alloc (.cells six0.cells 87)).alloc (.cells ph0.cells 177)) :=
  ⟨(Blk.new w _ _ _ rfl).old _, Blk.new _ _ _ _ (by simp), ((Below.refl _ _).alloc (Nat.le_refl _) _).alloc (by simp) _⟩
end
set_option maxRecDepth 20000 in
set_option maxHeartbeats 4000000 in
theorem phases_any (a : Option Addr) (cap : Nat) (l : List Msg) (sym lim : Int) (w : World) (hr : MsgRow w a l) (hl : l.length ≤ 120) (hlim : lim ≤ 9223372036854775807) :
    Calls Tryd.prog 59 #[.slice a l.length cap, .int .i64 sym, .int .i64 lim] w (PhasesIs (phasesF l sym lim) w) := by
  have HR := Lib.hid (fun k hk => msgRow_at hr k hk)
  have HP := Lib.hid (pk_start w)
  clear hr
  unfold ph0 six0 Ph.cells Six.cells at HP
  dsimp only at HP
  by_cases h0 : lim < 0
  · have HF := Lib.hid (show phasesF l sym lim = six0 from if_pos h0)
    go_enter Tryd.func59, Tryd.ntmps59
    go_wp2_with fail
    refine bodyPost_ret (results_cell_row rfl _ _ _ _ _ (0, 0) _ rfl HP.out.ab Tryd.underlying87 rfl (by kernel_rfl)) rfl ?_
    exact ⟨by rw [HF.out], HP.out.bel⟩
  · have HF := Lib.hid (show phasesF l sym lim = (turnF (phF sym lim l) 0 lim).s from if_neg h0)
    have HO := Lib.hid (ok_start (lim := lim) (by omega))
    go_enter Tryd.func59, Tryd.ntmps59
    go_wp2_with fail
    go_loopw [19] (fun i wr => ∃ (k : Nat) (x : Ph), k ≤ l.length ∧ i = .int .i64 k ∧ PK w x wr ∧ x = phF sym lim (l.take k) ∧ PhOk lim x) (fun i _ => l.length - (intOf i).toNat)
    case atStart => exact ⟨0, ph0, by omega, rfl, HP.out, rfl, HO.out⟩
    case round =>
      clear HP HO
      obtain ⟨k, x, hk, rfl, hp, hx, ho⟩ := hrel
      have HP := Lib.hid hp
      have HX := Lib.hid hx
      have HO := Lib.hid ho
      clear hp hx ho
      by_cases hlt : k < l.length
      · obtain ⟨gl, off, rfl, hgl, hcell⟩ := HR.out k hlt
        have HT := Lib.hid (show phF sym lim (l.take (k + 1)) = phStep sym lim x l[k] from by rw [List.take_succ_eq_append_getElem hlt, ph_snoc, ← HX.out])
        have hcs : wr.rangeAt gl (off + k * 9) l[k].cells.toList := fun j u hu => by rw [HP.out.bel.cell (p := ⟨gl, _, none⟩) hgl]; exact hcell j u hu
        have g0 : (0 : Int) ≤ (k : Int) := by omega
        have g1 : (k : Int) < (l.length : Int) := by omega
        clear hcell
        generalize l[k] = m at hcs HT
        have c0 : wr.cell? ⟨gl, off + k * 9, none⟩ = some (.int .i64 m.kind) := hcs 0 _ rfl
        have c1 : wr.cell? ⟨gl, off + k * 9 + 1, none⟩ = some (.int .i64 m.sym) := hcs 1 _ rfl
        have c2 : wr.cell? ⟨gl, off + k * 9 + 2, none⟩ = some (.int .i64 m.seq) := hcs 2 _ rfl
        have c3 : wr.cell? ⟨gl, off + k * 9 + 3, none⟩ = some (.int .i64 m.tick) := hcs 3 _ rfl
        have c4 : wr.cell? ⟨gl, off + k * 9 + 4, none⟩ = some (.int .i64 m.id) := hcs 4 _ rfl
        have c5 : wr.cell? ⟨gl, off + k * 9 + 5, none⟩ = some (.int .i64 m.wth) := hcs 5 _ rfl
        have c6 : wr.cell? ⟨gl, off + k * 9 + 6, none⟩ = some (.int .i64 m.price) := hcs 6 _ rfl
        have c7 : wr.cell? ⟨gl, off + k * 9 + 7, none⟩ = some (.int .i64 m.qty) := hcs 7 _ rfl
        have c8 : wr.cell? ⟨gl, off + k * 9 + 8, none⟩ = some (.int .i64 m.code) := hcs 8 _ rfl
        clear hcs
        have HI := Lib.hid (fun W => is_any m 6 sym W)
        have HP1 := Lib.hid (HP.out.below ((Below.refl _ _).alloc (Nat.le_refl _) (.cells m.cells 62)))
        have HM := Lib.hid (Blk.new wr m.cells 62 wr.heap.size rfl)
        clear HP HX
        unfold Msg.cells at HP1 HM HI
        go_wp2_with fail
        generalize wr.alloc (.cells #[.int .i64 m.kind, .int .i64 m.sym, .int .i64 m.seq, .int .i64 m.tick, .int .i64 m.id, .int .i64 m.wth, .int .i64 m.price, .int .i64 m.qty, .int .i64 m.code] 62) = W1 at HP1 HM ⊢
        refine (HI.out W1).mono ?_
        rintro e w2 ⟨rfl, hb2⟩
        have HP2 := Lib.hid (HP1.out.below hb2)
        have HM2 := Lib.hid (HM.out.below hb2 HM.out.lt)
        clear hb2 HP1 HM c0 c1 c2 c3 c4 c5 c6 c7 c8
        generalize wr.heap.size = B at HM2 ⊢
        have d3 : w2.cell? ⟨B, 3, none⟩ = some (.int .i64 m.tick) := HM2.out.cell 3 rfl
        have d8 : w2.cell? ⟨B, 8, none⟩ = some (.int .i64 m.code) := HM2.out.cell 8 rfl
        have ka : w2.cell? ⟨w.heap.size + 1, 1, none⟩ = some (.int .i64 x.t) := HP2.out.kb.cell 1 rfl
        have HS := Lib.hid (show ¬ PhB sym lim x m → phF sym lim (l.take (k + 1)) = x from fun h => by rw [HT.out, phStep, if_neg h])
        cases hI : (m.kind == 6 && m.sym == sym) with
        | false =>
          have HE := Lib.hid (HS.out (fun h => by have := h.1.1.1.1; rw [this.1, this.2] at hI; simp at hI))
          clear hI
          go_wp2_with fail
          go_roundw
          case rel => exact ⟨k + 1, x, by omega, by go_num, HP2.out, HE.out.symm, HO.out⟩
          case measure => simp [intOf]; omega
        | true =>
          have hI2 : m.kind = 6 ∧ m.sym = sym := by simpa using hI
          have HI2 := Lib.hid hI2
          clear hI hI2
          by_cases h1 : 0 ≤ m.code
          · have e1 : decide (0 ≤ m.code) = true := by simpa using h1
            by_cases h2 : m.code ≤ 5
            · have e2 : decide (m.code ≤ 5) = true := by simpa using h2
              by_cases h3 : x.t ≤ m.tick
              · have e3 : decide (x.t ≤ m.tick) = true := by simpa using h3
                by_cases h4 : m.tick ≤ lim
                · have e4 : decide (m.tick ≤ lim) = true := by simpa using h4
                  have HB := Lib.hid (show phF sym lim (l.take (k + 1)) = turnF x m.code m.tick by rw [HT.out, phStep, if_pos ⟨⟨⟨⟨HI2.out, h1⟩, h2⟩, h3⟩, h4⟩])
                  have HTU := Lib.hid (turn_any (w.heap.size + 1) x lim m.code m.tick w2 HP2.out.kb HO.out h3 h4 hlim)
                  have HO2 := Lib.hid (ok_turn HO.out h1 h2 h3 h4)
                  clear h1 h2 h3 h4
                  go_wp2_with fail
                  refine HTU.out.mono ?_
                  rintro e w3 ⟨rfl, hb3, hc3⟩
                  have HP3 := Lib.hid (HP2.out.turn hb3 hc3)
                  clear hb3 hc3 HTU
                  go_wp2_with fail
                  go_roundw
                  case rel => exact ⟨k + 1, _, by omega, by go_num, HP3.out, HB.out.symm, HO2.out⟩
                  case measure => simp [intOf]; omega
                · have e4 : decide (m.tick ≤ lim) = false := by simpa using h4
                  have HE := Lib.hid (HS.out (fun h => h4 h.2))
                  clear h1 h2 h3 h4
                  go_wp2_with fail
                  go_roundw
                  case rel => exact ⟨k + 1, x, by omega, by go_num, HP2.out, HE.out.symm, HO.out⟩
                  case measure => simp [intOf]; omega
              · have e3 : decide (x.t ≤ m.tick) = false := by simpa using h3
                have HE := Lib.hid (HS.out (fun h => h3 h.1.2))
                clear h1 h2 h3
                go_wp2_with fail
                go_roundw
                case rel => exact ⟨k + 1, x, by omega, by go_num, HP2.out, HE.out.symm, HO.out⟩
                case measure => simp [intOf]; omega
            · have e2 : decide (m.code ≤ 5) = false := by simpa using h2
              have HE := Lib.hid (HS.out (fun h => h2 h.1.1.2))
              clear h1 h2
              go_wp2_with fail
              go_roundw
              case rel => exact ⟨k + 1, x, by omega, by go_num, HP2.out, HE.out.symm, HO.out⟩
              case measure => simp [intOf]; omega
          · have e1 : decide (0 ≤ m.code) = false := by simpa using h1
            have HE := Lib.hid (HS.out (fun h => h1 h.1.1.1.2))
            clear h1
            go_wp2_with fail
            go_roundw
            case rel => exact ⟨k + 1, x, by omega, by go_num, HP2.out, HE.out.symm, HO.out⟩
            case measure => simp [intOf]; omega
      · have hke : k = l.length := by omega
        subst hke
        rw [List.take_length] at HX
        have kp : wr.cell? ⟨w.heap.size + 1, 0, none⟩ = some (.int .i64 x.p) := HP.out.kb.cell 0 rfl
        have HTU := Lib.hid (turn_any (w.heap.size + 1) x lim x.p lim wr HP.out.kb HO.out HO.out.t.2 (Int.le_refl _) hlim)
        go_wp2_with fail
        refine HTU.out.mono ?_
        rintro e w3 ⟨rfl, hb3, hc3⟩
        have HP3 := Lib.hid (HP.out.turn hb3 hc3)
        have HF2 := Lib.hid (show phasesF l sym lim = (turnF x x.p lim).s from by rw [HF.out, ← HX.out]; rfl)
        clear hb3 hc3 HTU HP HX HF HO
        generalize turnF x x.p lim = y at HP3 HF2
        obtain ⟨yp, yt, y1, y2, y3, y4, y5, y6⟩ := y
        have HA := HP3.out.ab
        unfold six0 Six.cells at HA
        have q0 : w3.cell? ⟨w.heap.size, 0, none⟩ = some (.int .i64 0) := HA.cell 0 rfl
        have q1 : w3.cell? ⟨w.heap.size, 1, none⟩ = some (.int .i64 0) := HA.cell 1 rfl
        have q2 : w3.cell? ⟨w.heap.size, 2, none⟩ = some (.int .i64 0) := HA.cell 2 rfl
        have q3 : w3.cell? ⟨w.heap.size, 3, none⟩ = some (.int .i64 0) := HA.cell 3 rfl
        have q4 : w3.cell? ⟨w.heap.size, 4, none⟩ = some (.int .i64 0) := HA.cell 4 rfl
        have q5 : w3.cell? ⟨w.heap.size, 5, none⟩ = some (.int .i64 0) := HA.cell 5 rfl
        have f0 := HA.free 0
        have f1 := HA.free 1
        have f2 := HA.free 2
        have f3 := HA.free 3
        have f4 := HA.free 4
        have f5 := HA.free 5
        have r0 : w3.cell? ⟨w.heap.size + 1, 2, none⟩ = some (.int .i64 y1) := HP3.out.kb.cell 2 rfl
        have r1 : w3.cell? ⟨w.heap.size + 1, 3, none⟩ = some (.int .i64 y2) := HP3.out.kb.cell 3 rfl
        have r2 : w3.cell? ⟨w.heap.size + 1, 4, none⟩ = some (.int .i64 y3) := HP3.out.kb.cell 4 rfl
        have r3 : w3.cell? ⟨w.heap.size + 1, 5, none⟩ = some (.int .i64 y4) := HP3.out.kb.cell 5 rfl
        have r4 : w3.cell? ⟨w.heap.size + 1, 6, none⟩ = some (.int .i64 y5) := HP3.out.kb.cell 6 rfl
        have r5 : w3.cell? ⟨w.heap.size + 1, 7, none⟩ = some (.int .i64 y6) := HP3.out.kb.cell 7 rfl
        have HZ := Lib.hid ((((((HA.set 0 (.int .i64 y1)).set 1 (.int .i64 y2)).set 2 (.int .i64 y3)).set 3 (.int .i64 y4)).set 4 (.int .i64 y5)).set 5 (.int .i64 y6))
        have HZB := Lib.hid ((((((HP3.out.bel.setCell (p := ⟨w.heap.size, 0, none⟩) (Nat.le_refl _) (.int .i64 y1)).setCell (p := ⟨w.heap.size, 1, none⟩) (Nat.le_refl _) (.int .i64 y2)).setCell (p := ⟨w.heap.size, 2, none⟩) (Nat.le_refl _) (.int .i64 y3)).setCell (p := ⟨w.heap.size, 3, none⟩) (Nat.le_refl _) (.int .i64 y4)).setCell (p := ⟨w.heap.size, 4, none⟩) (Nat.le_refl _) (.int .i64 y5)).setCell (p := ⟨w.heap.size, 5, none⟩) (Nat.le_refl _) (.int .i64 y6))
        have HZ2 := Lib.hid (show Blk _ w.heap.size #[.int .i64 y1, .int .i64 y2, .int .i64 y3, .int .i64 y4, .int .i64 y5, .int .i64 y6] 87 from by simpa using HZ.out)
        clear HA HZ
        go_wp2_with fail
        refine bodyPost_ret (results_cell_row rfl _ _ _ _ _ (0, 0) _ rfl HZ2.out Tryd.underlying87 rfl (by kernel_rfl)) rfl ?_
        exact ⟨by rw [HF2.out]; rfl, HZB.out⟩
end Go.Proofs.YtmkcooamgojbpaaDoor.Phases

/- damperref36.Phases. -/
namespace Go.Proofs.YtmkcooamgojbpaaDoor.Phases
open Go.RowKit Go.Proofs.YtmkcooamgojbpaaDoor.Kit Go.Proofs.YtmkcooamgojbpaaDoor.Blk Go.Proofs.YtmkcooamgojbpaaDoor.Msgs Go.Proofs.YtmkcooamgojbpaaDoor.Octets
attribute [local go_sem ↓] Go.wp_at_zero Go.wp_at_succ
set_option linter.unusedVariables false

/-- The sums, and the block of the answer. -/
structure RK (w : World) (s : Six) (W : World) : Prop where
  ab : Blk W w.heap.size six0.cells 87
  kb : Blk W (w.heap.size + 1) s.cells 87
  bel : Below w.heap.size w W
section
variable {w W W' : World} {s t : Six}
theorem RK.below (h : RK w s W) (hb : Below W.heap.size W W') : RK w s W' := ⟨h.ab.below hb h.ab.lt, h.kb.below hb h.kb.lt, h.bel.trans (hb.mono h.bel.size)⟩
theorem RK.drew (h : RK w s W) : RK w s W.drew := h.below (Below.refl _ _).drew
theorem RK.set (h : RK w s W) (j : Nat) (x : Int) (hs : t.cells = s.cells.setIfInBounds j (.int .i64 x)) : RK w t (W.setCell ⟨w.heap.size + 1, j, none⟩ (.int .i64 x)) :=
  ⟨h.ab.apart _ _ (by show w.heap.size + 1 ≠ w.heap.size; omega), hs ▸ h.kb.set j (.int .i64 x), h.bel.setCell (p := ⟨w.heap.size + 1, _, none⟩) (by show w.heap.size ≤ w.heap.size + 1; omega) _⟩
theorem rk_start (w : World) : RK w six0 ((w.alloc (.cells six0.cells 87)).alloc (.cells six0.cells 87)) :=
  ⟨(Blk.new w _ _ _ rfl).old _, Blk.new _ _ _ _ (by simp), ((Below.refl _ _).alloc (Nat.le_refl _) _).alloc (by simp) _⟩
end
set_option maxRecDepth 20000 in
set_option maxHeartbeats 8000000 in
theorem rphases_any (a : Option Addr) (cap : Nat) (l : List Msg) (sym lim : Int) (w : World) (hr : MsgRow w a l) (hl : l.length ≤ 120) (hlim : lim ≤ 9223372036854775807) :
    Calls Tryd.prog 60 #[.slice a l.length cap, .int .i64 sym, .int .i64 lim] w (PhasesIs (phasesF l sym lim) w) := by
  have HR := Lib.hid (fun k hk => msgRow_at hr k hk)
  have HP := Lib.hid (rk_start w)
  clear hr
  unfold six0 Six.cells at HP
  by_cases h0 : lim < 0
  · have HF := Lib.hid (show phasesF l sym lim = six0 from if_pos h0)
    go_enter Tryd.func60, Tryd.ntmps60
    go_wp2_with fail
    refine bodyPost_ret (results_cell_row rfl _ _ _ _ _ (0, 0) _ rfl HP.out.ab Tryd.underlying87 rfl (by kernel_rfl)) rfl ?_
    exact ⟨by rw [HF.out], HP.out.bel⟩
  · have HF := Lib.hid (show phasesF l sym lim = (turnF (phF sym lim l) 0 lim).s from if_neg h0)
    have HO := Lib.hid (ok_start (lim := lim) (by omega))
    go_enter Tryd.func60, Tryd.ntmps60
    go_wp2_with fail
    go_loopw [8, 9, 10] (fun pv tv i wr => ∃ (k : Nat) (x : Ph), k ≤ l.length ∧ i = .int .i64 k ∧ pv = .int .i64 x.p ∧ tv = .int .i64 x.t ∧ RK w x.s wr ∧ x = phF sym lim (l.take k) ∧ PhOk lim x) (fun _ _ i _ => l.length - (intOf i).toNat)
    case atStart => exact ⟨0, ph0, by omega, rfl, rfl, rfl, HP.out, rfl, HO.out⟩
    case round =>
      clear HP HO
      obtain ⟨k, ⟨p, t, s⟩, hk, rfl, hpv, htv, hp, hx, ho⟩ := hrel
      dsimp only at hpv htv hp
      subst hpv htv
      have HP := Lib.hid hp
      have HX := Lib.hid hx
      have HO := Lib.hid ho
      obtain ⟨⟨p0, p5⟩, ⟨t0, t1⟩, ⟨⟨ha, hb, hc⟩, hd, he, hf⟩, hs⟩ := ho
      dsimp only at p0 p5 t0 t1 ha hb hc hd he hf hs
      have HPC := Lib.hid (show p = 0 ∨ p = 1 ∨ p = 2 ∨ p = 3 ∨ p = 4 ∨ p = 5 by omega)
      clear hp hx
      by_cases hlt : k < l.length
      · obtain ⟨gl, off, rfl, hgl, hcell⟩ := HR.out k hlt
        have HT := Lib.hid (show phF sym lim (l.take (k + 1)) = phStep sym lim ⟨p, t, s⟩ l[k] from by rw [List.take_succ_eq_append_getElem hlt, ph_snoc, ← HX.out])
        have hcs : wr.rangeAt gl (off + k * 9) l[k].cells.toList := fun j u hu => by rw [HP.out.bel.cell (p := ⟨gl, _, none⟩) hgl]; exact hcell j u hu
        have g0 : (0 : Int) ≤ (k : Int) := by omega
        have g1 : (k : Int) < (l.length : Int) := by omega
        clear hcell
        generalize l[k] = m at hcs HT
        have c0 : wr.cell? ⟨gl, off + k * 9, none⟩ = some (.int .i64 m.kind) := hcs 0 _ rfl
        have c1 : wr.cell? ⟨gl, off + k * 9 + 1, none⟩ = some (.int .i64 m.sym) := hcs 1 _ rfl
        have c2 : wr.cell? ⟨gl, off + k * 9 + 2, none⟩ = some (.int .i64 m.seq) := hcs 2 _ rfl
        have c3 : wr.cell? ⟨gl, off + k * 9 + 3, none⟩ = some (.int .i64 m.tick) := hcs 3 _ rfl
        have c4 : wr.cell? ⟨gl, off + k * 9 + 4, none⟩ = some (.int .i64 m.id) := hcs 4 _ rfl
        have c5 : wr.cell? ⟨gl, off + k * 9 + 5, none⟩ = some (.int .i64 m.wth) := hcs 5 _ rfl
        have c6 : wr.cell? ⟨gl, off + k * 9 + 6, none⟩ = some (.int .i64 m.price) := hcs 6 _ rfl
        have c7 : wr.cell? ⟨gl, off + k * 9 + 7, none⟩ = some (.int .i64 m.qty) := hcs 7 _ rfl
        have c8 : wr.cell? ⟨gl, off + k * 9 + 8, none⟩ = some (.int .i64 m.code) := hcs 8 _ rfl
        clear hcs
        have HP1 := Lib.hid (HP.out.below ((Below.refl _ _).alloc (Nat.le_refl _) (.cells m.cells 62)))
        have HM := Lib.hid (Blk.new wr m.cells 62 wr.heap.size rfl)
        have HBN := Lib.hid (show w.heap.size + 1 ≠ wr.heap.size by have := HP.out.kb.lt; omega)
        have HS := Lib.hid (show ¬ PhB sym lim ⟨p, t, s⟩ m → phF sym lim (l.take (k + 1)) = ⟨p, t, s⟩ from fun h => by rw [HT.out, phStep, if_neg h])
        clear HP HX
        unfold Msg.cells at HP1 HM
        go_upto_region 10 with fail
        change Code.wp _ _ _ _ (wr.alloc (.cells #[.int .i64 m.kind, .int .i64 m.sym, .int .i64 m.seq, .int .i64 m.tick, .int .i64 m.id, .int .i64 m.wth, .int .i64 m.price, .int .i64 m.qty, .int .i64 m.code] 62))
        generalize wr.alloc (.cells #[.int .i64 m.kind, .int .i64 m.sym, .int .i64 m.seq, .int .i64 m.tick, .int .i64 m.id, .int .i64 m.wth, .int .i64 m.price, .int .i64 m.qty, .int .i64 m.code] 62) = w1 at HP1 HM ⊢
        generalize wr.heap.size = B at HM HBN ⊢
        clear c0 c1 c2 c3 c4 c5 c6 c7 c8
        have d0 : w1.cell? ⟨B, 0, none⟩ = some (.int .i64 m.kind) := HM.out.cell 0 rfl
        have d1 : w1.cell? ⟨B, 1, none⟩ = some (.int .i64 m.sym) := HM.out.cell 1 rfl
        have d3 : w1.cell? ⟨B, 3, none⟩ = some (.int .i64 m.tick) := HM.out.cell 3 rfl
        have d8 : w1.cell? ⟨B, 8, none⟩ = some (.int .i64 m.code) := HM.out.cell 8 rfl
        by_cases h1 : m.kind = 6
        · have e1 : (m.kind != 6) = false := by simp [h1]
          by_cases h2 : m.sym = sym
          · have e2 : (m.sym != sym) = false := by simp [h2]
            by_cases h3 : m.code < 0
            · have e3 : decide (m.code < 0) = true := by simpa using h3
              have HE := Lib.hid (HS.out (fun h => by have := h.1.1.1.2; omega))
              clear h1 h2 h3
              go_wp2_with fail
              go_roundw
              case rel => exact ⟨k + 1, ⟨p, t, s⟩, by omega, by go_num, rfl, rfl, HP1.out, HE.out.symm, HO.out⟩
              case measure => simp [intOf]; omega
            · have e3 : decide (m.code < 0) = false := by simpa using h3
              by_cases h4 : 5 < m.code
              · have e4 : decide (5 < m.code) = true := by simpa using h4
                have HE := Lib.hid (HS.out (fun h => by have := h.1.1.2; omega))
                clear h1 h2 h3 h4
                go_wp2_with fail
                go_roundw
                case rel => exact ⟨k + 1, ⟨p, t, s⟩, by omega, by go_num, rfl, rfl, HP1.out, HE.out.symm, HO.out⟩
                case measure => simp [intOf]; omega
              · have e4 : decide (5 < m.code) = false := by simpa using h4
                by_cases h5 : m.tick < t
                · have e5 : decide (m.tick < t) = true := by simpa using h5
                  have HE := Lib.hid (HS.out (fun h => by have : t ≤ m.tick := h.1.2; omega))
                  clear h1 h2 h3 h4 h5
                  go_wp2_with fail
                  go_roundw
                  case rel => exact ⟨k + 1, ⟨p, t, s⟩, by omega, by go_num, rfl, rfl, HP1.out, HE.out.symm, HO.out⟩
                  case measure => simp [intOf]; omega
                · have e5 : decide (m.tick < t) = false := by simpa using h5
                  by_cases h6 : lim < m.tick
                  · have e6 : decide (lim < m.tick) = true := by simpa using h6
                    have HE := Lib.hid (HS.out (fun h => by have := h.2; omega))
                    clear h1 h2 h3 h4 h5 h6
                    go_wp2_with fail
                    go_roundw
                    case rel => exact ⟨k + 1, ⟨p, t, s⟩, by omega, by go_num, rfl, rfl, HP1.out, HE.out.symm, HO.out⟩
                    case measure => simp [intOf]; omega
                  · have e6 : decide (lim < m.tick) = false := by simpa using h6
                    have HB := Lib.hid (show phF sym lim (l.take (k + 1)) = turnF ⟨p, t, s⟩ m.code m.tick by rw [HT.out, phStep, if_pos ⟨⟨⟨⟨⟨h1, h2⟩, by omega⟩, by omega⟩, by show t ≤ m.tick; omega⟩, by omega⟩])
                    have HO2 := Lib.hid (ok_turn HO.out (code := m.code) (n := m.tick) (by omega) (by omega) (by show t ≤ m.tick; omega) (by omega))
                    unfold turnF at HB HO2
                    dsimp only at HB HO2
                    clear h1 h2 h3 h4
                    go_upto_region 11 with fail
                    clear d0 d1 d3 d8
                    rcases HPC.out with rfl | rfl | rfl | rfl | rfl | rfl
                    · have cs : w1.drew.cell? ⟨w.heap.size + 1, 0, none⟩ = some (.int .i64 s.a) := HP1.out.kb.cell 0 rfl
                      have fs : w1.drew.frozen? ⟨w.heap.size + 1, 0, none⟩ = false := HP1.out.kb.free 0
                      have hw : IntKind.i64.wrap (IntKind.i64.wrap (s.a + m.tick) - t) = s.a + (m.tick - t) := by rw [wrap_two (by omega) (by omega)]; omega
                      have HP2 := Lib.hid (HP1.out.drew.set (t := s.add 0 (m.tick - t)) 0 (s.a + (m.tick - t)) (by simp [Six.cells, Six.add]))
                      have d3 : w1.drew.cell? ⟨B, 3, none⟩ = some (.int .i64 m.tick) := HM.out.cell 3 rfl
                      have d8 : (w1.drew.setCell ⟨w.heap.size + 1, 0, none⟩ (.int .i64 (s.a + (m.tick - t)))).cell? ⟨B, 8, none⟩ = some (.int .i64 m.code) := (HM.out.drew.apart ⟨w.heap.size + 1, 0, none⟩ _ HBN.out).cell 8 rfl
                      have e3' : (w1.drew.setCell ⟨w.heap.size + 1, 0, none⟩ (.int .i64 (s.a + (m.tick - t)))).cell? ⟨B, 3, none⟩ = some (.int .i64 m.tick) := (HM.out.drew.apart ⟨w.heap.size + 1, 0, none⟩ _ HBN.out).cell 3 rfl
                      refine Go.Proofs.YtmkcooamgojbpaaDoor.Veil.start 10 (by kernel_rfl) (by kernel_rfl) ?_
                      simp only [List.take_succ_cons, List.take_zero, List.drop_succ_cons, List.drop_zero]
                      (refine Go.Proofs.YtmkcooamgojbpaaDoor.Veil.step (fun K hK => ?_); go_simp; refine hK _ ?_; clear hK K)
                      (refine Go.Proofs.YtmkcooamgojbpaaDoor.Veil.step (fun K hK => ?_); go_simp; refine hK _ ?_; clear hK K)
                      (refine Go.Proofs.YtmkcooamgojbpaaDoor.Veil.step (fun K hK => ?_); go_simp; refine hK _ ?_; clear hK K)
                      (refine Go.Proofs.YtmkcooamgojbpaaDoor.Veil.step (fun K hK => ?_); go_simp; refine hK _ ?_; clear hK K)
                      (refine Go.Proofs.YtmkcooamgojbpaaDoor.Veil.step (fun K hK => ?_); go_simp; refine hK _ ?_; clear hK K)
                      (refine Go.Proofs.YtmkcooamgojbpaaDoor.Veil.step (fun K hK => ?_); go_simp; refine hK _ ?_; clear hK K)
                      (refine Go.Proofs.YtmkcooamgojbpaaDoor.Veil.step (fun K hK => ?_); go_simp; refine hK _ ?_; clear hK K)
                      (refine Go.Proofs.YtmkcooamgojbpaaDoor.Veil.step (fun K hK => ?_); go_simp; refine hK _ ?_; clear hK K)
                      (refine Go.Proofs.YtmkcooamgojbpaaDoor.Veil.step (fun K hK => ?_); go_simp; refine hK _ ?_; clear hK K)
                      (refine Go.Proofs.YtmkcooamgojbpaaDoor.Veil.step (fun K hK => ?_); go_simp; refine hK _ ?_; clear hK K)
                      refine Go.Proofs.YtmkcooamgojbpaaDoor.Veil.nil ?_
                      change wpList _ _ _ _ _ w1.drew
                      go_upto_region 12 with fail
                      first | rw [hw] | skip
                      change Code.wp _ _ _ _ (w1.drew.setCell ⟨w.heap.size + 1, 0, none⟩ (.int .i64 (s.a + (m.tick - t))))
                      generalize w1.drew.setCell ⟨w.heap.size + 1, 0, none⟩ (.int .i64 (s.a + (m.tick - t))) = w3 at HP2 d8 e3' ⊢
                      go_wp2_with fail
                      go_roundw
                      case rel => exact ⟨k + 1, ⟨m.code, m.tick, s.add 0 (m.tick - t)⟩, by omega, by go_num, rfl, rfl, HP2.out, HB.out.symm, HO2.out⟩
                      case measure => simp [intOf]; omega
                    · have cs : w1.drew.cell? ⟨w.heap.size + 1, 1, none⟩ = some (.int .i64 s.b) := HP1.out.kb.cell 1 rfl
                      have fs : w1.drew.frozen? ⟨w.heap.size + 1, 1, none⟩ = false := HP1.out.kb.free 1
                      have hw : IntKind.i64.wrap (IntKind.i64.wrap (s.b + m.tick) - t) = s.b + (m.tick - t) := by rw [wrap_two (by omega) (by omega)]; omega
                      have HP2 := Lib.hid (HP1.out.drew.set (t := s.add 1 (m.tick - t)) 1 (s.b + (m.tick - t)) (by simp [Six.cells, Six.add]))
                      have d3 : w1.drew.cell? ⟨B, 3, none⟩ = some (.int .i64 m.tick) := HM.out.cell 3 rfl
                      have d8 : (w1.drew.setCell ⟨w.heap.size + 1, 1, none⟩ (.int .i64 (s.b + (m.tick - t)))).cell? ⟨B, 8, none⟩ = some (.int .i64 m.code) := (HM.out.drew.apart ⟨w.heap.size + 1, 1, none⟩ _ HBN.out).cell 8 rfl
                      have e3' : (w1.drew.setCell ⟨w.heap.size + 1, 1, none⟩ (.int .i64 (s.b + (m.tick - t)))).cell? ⟨B, 3, none⟩ = some (.int .i64 m.tick) := (HM.out.drew.apart ⟨w.heap.size + 1, 1, none⟩ _ HBN.out).cell 3 rfl
                      refine Go.Proofs.YtmkcooamgojbpaaDoor.Veil.start 10 (by kernel_rfl) (by kernel_rfl) ?_
                      simp only [List.take_succ_cons, List.take_zero, List.drop_succ_cons, List.drop_zero]
                      (refine Go.Proofs.YtmkcooamgojbpaaDoor.Veil.step (fun K hK => ?_); go_simp; refine hK _ ?_; clear hK K)
                      (refine Go.Proofs.YtmkcooamgojbpaaDoor.Veil.step (fun K hK => ?_); go_simp; refine hK _ ?_; clear hK K)
                      (refine Go.Proofs.YtmkcooamgojbpaaDoor.Veil.step (fun K hK => ?_); go_simp; refine hK _ ?_; clear hK K)
                      (refine Go.Proofs.YtmkcooamgojbpaaDoor.Veil.step (fun K hK => ?_); go_simp; refine hK _ ?_; clear hK K)
                      (refine Go.Proofs.YtmkcooamgojbpaaDoor.Veil.step (fun K hK => ?_); go_simp; refine hK _ ?_; clear hK K)
                      (refine Go.Proofs.YtmkcooamgojbpaaDoor.Veil.step (fun K hK => ?_); go_simp; refine hK _ ?_; clear hK K)
                      (refine Go.Proofs.YtmkcooamgojbpaaDoor.Veil.step (fun K hK => ?_); go_simp; refine hK _ ?_; clear hK K)
                      (refine Go.Proofs.YtmkcooamgojbpaaDoor.Veil.step (fun K hK => ?_); go_simp; refine hK _ ?_; clear hK K)
                      (refine Go.Proofs.YtmkcooamgojbpaaDoor.Veil.step (fun K hK => ?_); go_simp; refine hK _ ?_; clear hK K)
                      (refine Go.Proofs.YtmkcooamgojbpaaDoor.Veil.step (fun K hK => ?_); go_simp; refine hK _ ?_; clear hK K)
                      refine Go.Proofs.YtmkcooamgojbpaaDoor.Veil.nil ?_
                      change wpList _ _ _ _ _ w1.drew
                      go_upto_region 12 with fail
                      first | rw [hw] | skip
                      change Code.wp _ _ _ _ (w1.drew.setCell ⟨w.heap.size + 1, 1, none⟩ (.int .i64 (s.b + (m.tick - t))))
                      generalize w1.drew.setCell ⟨w.heap.size + 1, 1, none⟩ (.int .i64 (s.b + (m.tick - t))) = w3 at HP2 d8 e3' ⊢
                      go_wp2_with fail
                      go_roundw
                      case rel => exact ⟨k + 1, ⟨m.code, m.tick, s.add 1 (m.tick - t)⟩, by omega, by go_num, rfl, rfl, HP2.out, HB.out.symm, HO2.out⟩
                      case measure => simp [intOf]; omega
                    · have cs : w1.drew.cell? ⟨w.heap.size + 1, 2, none⟩ = some (.int .i64 s.c) := HP1.out.kb.cell 2 rfl
                      have fs : w1.drew.frozen? ⟨w.heap.size + 1, 2, none⟩ = false := HP1.out.kb.free 2
                      have hw : IntKind.i64.wrap (IntKind.i64.wrap (s.c + m.tick) - t) = s.c + (m.tick - t) := by rw [wrap_two (by omega) (by omega)]; omega
                      have HP2 := Lib.hid (HP1.out.drew.set (t := s.add 2 (m.tick - t)) 2 (s.c + (m.tick - t)) (by simp [Six.cells, Six.add]))
                      have d3 : w1.drew.cell? ⟨B, 3, none⟩ = some (.int .i64 m.tick) := HM.out.cell 3 rfl
                      have d8 : (w1.drew.setCell ⟨w.heap.size + 1, 2, none⟩ (.int .i64 (s.c + (m.tick - t)))).cell? ⟨B, 8, none⟩ = some (.int .i64 m.code) := (HM.out.drew.apart ⟨w.heap.size + 1, 2, none⟩ _ HBN.out).cell 8 rfl
                      have e3' : (w1.drew.setCell ⟨w.heap.size + 1, 2, none⟩ (.int .i64 (s.c + (m.tick - t)))).cell? ⟨B, 3, none⟩ = some (.int .i64 m.tick) := (HM.out.drew.apart ⟨w.heap.size + 1, 2, none⟩ _ HBN.out).cell 3 rfl
                      refine Go.Proofs.YtmkcooamgojbpaaDoor.Veil.start 10 (by kernel_rfl) (by kernel_rfl) ?_
                      simp only [List.take_succ_cons, List.take_zero, List.drop_succ_cons, List.drop_zero]
                      (refine Go.Proofs.YtmkcooamgojbpaaDoor.Veil.step (fun K hK => ?_); go_simp; refine hK _ ?_; clear hK K)
                      (refine Go.Proofs.YtmkcooamgojbpaaDoor.Veil.step (fun K hK => ?_); go_simp; refine hK _ ?_; clear hK K)
                      (refine Go.Proofs.YtmkcooamgojbpaaDoor.Veil.step (fun K hK => ?_); go_simp; refine hK _ ?_; clear hK K)
                      (refine Go.Proofs.YtmkcooamgojbpaaDoor.Veil.step (fun K hK => ?_); go_simp; refine hK _ ?_; clear hK K)
                      (refine Go.Proofs.YtmkcooamgojbpaaDoor.Veil.step (fun K hK => ?_); go_simp; refine hK _ ?_; clear hK K)
                      (refine Go.Proofs.YtmkcooamgojbpaaDoor.Veil.step (fun K hK => ?_); go_simp; refine hK _ ?_; clear hK K)
                      (refine Go.Proofs.YtmkcooamgojbpaaDoor.Veil.step (fun K hK => ?_); go_simp; refine hK _ ?_; clear hK K)
                      (refine Go.Proofs.YtmkcooamgojbpaaDoor.Veil.step (fun K hK => ?_); go_simp; refine hK _ ?_; clear hK K)
                      (refine Go.Proofs.YtmkcooamgojbpaaDoor.Veil.step (fun K hK => ?_); go_simp; refine hK _ ?_; clear hK K)
                      (refine Go.Proofs.YtmkcooamgojbpaaDoor.Veil.step (fun K hK => ?_); go_simp; refine hK _ ?_; clear hK K)
                      refine Go.Proofs.YtmkcooamgojbpaaDoor.Veil.nil ?_
                      change wpList _ _ _ _ _ w1.drew
                      go_upto_region 12 with fail
                      first | rw [hw] | skip
                      change Code.wp _ _ _ _ (w1.drew.setCell ⟨w.heap.size + 1, 2, none⟩ (.int .i64 (s.c + (m.tick - t))))
                      generalize w1.drew.setCell ⟨w.heap.size + 1, 2, none⟩ (.int .i64 (s.c + (m.tick - t))) = w3 at HP2 d8 e3' ⊢
                      go_wp2_with fail
                      go_roundw
                      case rel => exact ⟨k + 1, ⟨m.code, m.tick, s.add 2 (m.tick - t)⟩, by omega, by go_num, rfl, rfl, HP2.out, HB.out.symm, HO2.out⟩
                      case measure => simp [intOf]; omega
                    · have cs : w1.drew.cell? ⟨w.heap.size + 1, 3, none⟩ = some (.int .i64 s.d) := HP1.out.kb.cell 3 rfl
                      have fs : w1.drew.frozen? ⟨w.heap.size + 1, 3, none⟩ = false := HP1.out.kb.free 3
                      have hw : IntKind.i64.wrap (IntKind.i64.wrap (s.d + m.tick) - t) = s.d + (m.tick - t) := by rw [wrap_two (by omega) (by omega)]; omega
                      have HP2 := Lib.hid (HP1.out.drew.set (t := s.add 3 (m.tick - t)) 3 (s.d + (m.tick - t)) (by simp [Six.cells, Six.add]))
                      have d3 : w1.drew.cell? ⟨B, 3, none⟩ = some (.int .i64 m.tick) := HM.out.cell 3 rfl
                      have d8 : (w1.drew.setCell ⟨w.heap.size + 1, 3, none⟩ (.int .i64 (s.d + (m.tick - t)))).cell? ⟨B, 8, none⟩ = some (.int .i64 m.code) := (HM.out.drew.apart ⟨w.heap.size + 1, 3, none⟩ _ HBN.out).cell 8 rfl
                      have e3' : (w1.drew.setCell ⟨w.heap.size + 1, 3, none⟩ (.int .i64 (s.d + (m.tick - t)))).cell? ⟨B, 3, none⟩ = some (.int .i64 m.tick) := (HM.out.drew.apart ⟨w.heap.size + 1, 3, none⟩ _ HBN.out).cell 3 rfl
                      refine Go.Proofs.YtmkcooamgojbpaaDoor.Veil.start 10 (by kernel_rfl) (by kernel_rfl) ?_
                      simp only [List.take_succ_cons, List.take_zero, List.drop_succ_cons, List.drop_zero]
                      (refine Go.Proofs.YtmkcooamgojbpaaDoor.Veil.step (fun K hK => ?_); go_simp; refine hK _ ?_; clear hK K)
                      (refine Go.Proofs.YtmkcooamgojbpaaDoor.Veil.step (fun K hK => ?_); go_simp; refine hK _ ?_; clear hK K)
                      (refine Go.Proofs.YtmkcooamgojbpaaDoor.Veil.step (fun K hK => ?_); go_simp; refine hK _ ?_; clear hK K)
                      (refine Go.Proofs.YtmkcooamgojbpaaDoor.Veil.step (fun K hK => ?_); go_simp; refine hK _ ?_; clear hK K)
                      (refine Go.Proofs.YtmkcooamgojbpaaDoor.Veil.step (fun K hK => ?_); go_simp; refine hK _ ?_; clear hK K)
                      (refine Go.Proofs.YtmkcooamgojbpaaDoor.Veil.step (fun K hK => ?_); go_simp; refine hK _ ?_; clear hK K)
                      (refine Go.Proofs.YtmkcooamgojbpaaDoor.Veil.step (fun K hK => ?_); go_simp; refine hK _ ?_; clear hK K)
                      (refine Go.Proofs.YtmkcooamgojbpaaDoor.Veil.step (fun K hK => ?_); go_simp; refine hK _ ?_; clear hK K)
                      (refine Go.Proofs.YtmkcooamgojbpaaDoor.Veil.step (fun K hK => ?_); go_simp; refine hK _ ?_; clear hK K)
                      (refine Go.Proofs.YtmkcooamgojbpaaDoor.Veil.step (fun K hK => ?_); go_simp; refine hK _ ?_; clear hK K)
                      refine Go.Proofs.YtmkcooamgojbpaaDoor.Veil.nil ?_
                      change wpList _ _ _ _ _ w1.drew
                      go_upto_region 12 with fail
                      first | rw [hw] | skip
                      change Code.wp _ _ _ _ (w1.drew.setCell ⟨w.heap.size + 1, 3, none⟩ (.int .i64 (s.d + (m.tick - t))))
                      generalize w1.drew.setCell ⟨w.heap.size + 1, 3, none⟩ (.int .i64 (s.d + (m.tick - t))) = w3 at HP2 d8 e3' ⊢
                      go_wp2_with fail
                      go_roundw
                      case rel => exact ⟨k + 1, ⟨m.code, m.tick, s.add 3 (m.tick - t)⟩, by omega, by go_num, rfl, rfl, HP2.out, HB.out.symm, HO2.out⟩
                      case measure => simp [intOf]; omega
                    · have cs : w1.drew.cell? ⟨w.heap.size + 1, 4, none⟩ = some (.int .i64 s.e) := HP1.out.kb.cell 4 rfl
                      have fs : w1.drew.frozen? ⟨w.heap.size + 1, 4, none⟩ = false := HP1.out.kb.free 4
                      have hw : IntKind.i64.wrap (IntKind.i64.wrap (s.e + m.tick) - t) = s.e + (m.tick - t) := by rw [wrap_two (by omega) (by omega)]; omega
                      have HP2 := Lib.hid (HP1.out.drew.set (t := s.add 4 (m.tick - t)) 4 (s.e + (m.tick - t)) (by simp [Six.cells, Six.add]))
                      have d3 : w1.drew.cell? ⟨B, 3, none⟩ = some (.int .i64 m.tick) := HM.out.cell 3 rfl
                      have d8 : (w1.drew.setCell ⟨w.heap.size + 1, 4, none⟩ (.int .i64 (s.e + (m.tick - t)))).cell? ⟨B, 8, none⟩ = some (.int .i64 m.code) := (HM.out.drew.apart ⟨w.heap.size + 1, 4, none⟩ _ HBN.out).cell 8 rfl
                      have e3' : (w1.drew.setCell ⟨w.heap.size + 1, 4, none⟩ (.int .i64 (s.e + (m.tick - t)))).cell? ⟨B, 3, none⟩ = some (.int .i64 m.tick) := (HM.out.drew.apart ⟨w.heap.size + 1, 4, none⟩ _ HBN.out).cell 3 rfl
                      refine Go.Proofs.YtmkcooamgojbpaaDoor.Veil.start 10 (by kernel_rfl) (by kernel_rfl) ?_
                      simp only [List.take_succ_cons, List.take_zero, List.drop_succ_cons, List.drop_zero]
                      (refine Go.Proofs.YtmkcooamgojbpaaDoor.Veil.step (fun K hK => ?_); go_simp; refine hK _ ?_; clear hK K)
                      (refine Go.Proofs.YtmkcooamgojbpaaDoor.Veil.step (fun K hK => ?_); go_simp; refine hK _ ?_; clear hK K)
                      (refine Go.Proofs.YtmkcooamgojbpaaDoor.Veil.step (fun K hK => ?_); go_simp; refine hK _ ?_; clear hK K)
                      (refine Go.Proofs.YtmkcooamgojbpaaDoor.Veil.step (fun K hK => ?_); go_simp; refine hK _ ?_; clear hK K)
                      (refine Go.Proofs.YtmkcooamgojbpaaDoor.Veil.step (fun K hK => ?_); go_simp; refine hK _ ?_; clear hK K)
                      (refine Go.Proofs.YtmkcooamgojbpaaDoor.Veil.step (fun K hK => ?_); go_simp; refine hK _ ?_; clear hK K)
                      (refine Go.Proofs.YtmkcooamgojbpaaDoor.Veil.step (fun K hK => ?_); go_simp; refine hK _ ?_; clear hK K)
                      (refine Go.Proofs.YtmkcooamgojbpaaDoor.Veil.step (fun K hK => ?_); go_simp; refine hK _ ?_; clear hK K)
                      (refine Go.Proofs.YtmkcooamgojbpaaDoor.Veil.step (fun K hK => ?_); go_simp; refine hK _ ?_; clear hK K)
                      (refine Go.Proofs.YtmkcooamgojbpaaDoor.Veil.step (fun K hK => ?_); go_simp; refine hK _ ?_; clear hK K)
                      refine Go.Proofs.YtmkcooamgojbpaaDoor.Veil.nil ?_
                      change wpList _ _ _ _ _ w1.drew
                      go_upto_region 12 with fail
                      first | rw [hw] | skip
                      change Code.wp _ _ _ _ (w1.drew.setCell ⟨w.heap.size + 1, 4, none⟩ (.int .i64 (s.e + (m.tick - t))))
                      generalize w1.drew.setCell ⟨w.heap.size + 1, 4, none⟩ (.int .i64 (s.e + (m.tick - t))) = w3 at HP2 d8 e3' ⊢
                      go_wp2_with fail
                      go_roundw
                      case rel => exact ⟨k + 1, ⟨m.code, m.tick, s.add 4 (m.tick - t)⟩, by omega, by go_num, rfl, rfl, HP2.out, HB.out.symm, HO2.out⟩
                      case measure => simp [intOf]; omega
                    · have cs : w1.drew.cell? ⟨w.heap.size + 1, 5, none⟩ = some (.int .i64 s.f) := HP1.out.kb.cell 5 rfl
                      have fs : w1.drew.frozen? ⟨w.heap.size + 1, 5, none⟩ = false := HP1.out.kb.free 5
                      have hw : IntKind.i64.wrap (IntKind.i64.wrap (s.f + m.tick) - t) = s.f + (m.tick - t) := by rw [wrap_two (by omega) (by omega)]; omega
                      have HP2 := Lib.hid (HP1.out.drew.set (t := s.add 5 (m.tick - t)) 5 (s.f + (m.tick - t)) (by simp [Six.cells, Six.add]))
                      have d3 : w1.drew.cell? ⟨B, 3, none⟩ = some (.int .i64 m.tick) := HM.out.cell 3 rfl
                      have d8 : (w1.drew.setCell ⟨w.heap.size + 1, 5, none⟩ (.int .i64 (s.f + (m.tick - t)))).cell? ⟨B, 8, none⟩ = some (.int .i64 m.code) := (HM.out.drew.apart ⟨w.heap.size + 1, 5, none⟩ _ HBN.out).cell 8 rfl
                      have e3' : (w1.drew.setCell ⟨w.heap.size + 1, 5, none⟩ (.int .i64 (s.f + (m.tick - t)))).cell? ⟨B, 3, none⟩ = some (.int .i64 m.tick) := (HM.out.drew.apart ⟨w.heap.size + 1, 5, none⟩ _ HBN.out).cell 3 rfl
                      refine Go.Proofs.YtmkcooamgojbpaaDoor.Veil.start 10 (by kernel_rfl) (by kernel_rfl) ?_
                      simp only [List.take_succ_cons, List.take_zero, List.drop_succ_cons, List.drop_zero]
                      (refine Go.Proofs.YtmkcooamgojbpaaDoor.Veil.step (fun K hK => ?_); go_simp; refine hK _ ?_; clear hK K)
                      (refine Go.Proofs.YtmkcooamgojbpaaDoor.Veil.step (fun K hK => ?_); go_simp; refine hK _ ?_; clear hK K)
                      (refine Go.Proofs.YtmkcooamgojbpaaDoor.Veil.step (fun K hK => ?_); go_simp; refine hK _ ?_; clear hK K)
                      (refine Go.Proofs.YtmkcooamgojbpaaDoor.Veil.step (fun K hK => ?_); go_simp; refine hK _ ?_; clear hK K)
                      (refine Go.Proofs.YtmkcooamgojbpaaDoor.Veil.step (fun K hK => ?_); go_simp; refine hK _ ?_; clear hK K)
                      (refine Go.Proofs.YtmkcooamgojbpaaDoor.Veil.step (fun K hK => ?_); go_simp; refine hK _ ?_; clear hK K)
                      (refine Go.Proofs.YtmkcooamgojbpaaDoor.Veil.step (fun K hK => ?_); go_simp; refine hK _ ?_; clear hK K)
                      (refine Go.Proofs.YtmkcooamgojbpaaDoor.Veil.step (fun K hK => ?_); go_simp; refine hK _ ?_; clear hK K)
                      (refine Go.Proofs.YtmkcooamgojbpaaDoor.Veil.step (fun K hK => ?_); go_simp; refine hK _ ?_; clear hK K)
                      (refine Go.Proofs.YtmkcooamgojbpaaDoor.Veil.step (fun K hK => ?_); go_simp; refine hK _ ?_; clear hK K)
                      refine Go.Proofs.YtmkcooamgojbpaaDoor.Veil.nil ?_
                      change wpList _ _ _ _ _ w1.drew
                      go_upto_region 12 with fail
                      first | rw [hw] | skip
                      change Code.wp _ _ _ _ (w1.drew.setCell ⟨w.heap.size + 1, 5, none⟩ (.int .i64 (s.f + (m.tick - t))))
                      generalize w1.drew.setCell ⟨w.heap.size + 1, 5, none⟩ (.int .i64 (s.f + (m.tick - t))) = w3 at HP2 d8 e3' ⊢
                      go_wp2_with fail
                      go_roundw
                      case rel => exact ⟨k + 1, ⟨m.code, m.tick, s.add 5 (m.tick - t)⟩, by omega, by go_num, rfl, rfl, HP2.out, HB.out.symm, HO2.out⟩
                      case measure => simp [intOf]; omega
          · have e2 : (m.sym != sym) = true := by simpa using h2
            have HE := Lib.hid (HS.out (fun h => h2 h.1.1.1.1.2))
            clear h1 h2
            go_wp2_with fail
            go_roundw
            case rel => exact ⟨k + 1, ⟨p, t, s⟩, by omega, by go_num, rfl, rfl, HP1.out, HE.out.symm, HO.out⟩
            case measure => simp [intOf]; omega
        · have e1 : (m.kind != 6) = true := by simpa using h1
          have HE := Lib.hid (HS.out (fun h => h1 h.1.1.1.1.1))
          clear h1
          go_wp2_with fail
          go_roundw
          case rel => exact ⟨k + 1, ⟨p, t, s⟩, by omega, by go_num, rfl, rfl, HP1.out, HE.out.symm, HO.out⟩
          case measure => simp [intOf]; omega
      · have hke : k = l.length := by omega
        subst hke
        rw [List.take_length] at HX
        rcases HPC.out with rfl | rfl | rfl | rfl | rfl | rfl
        · have cs : wr.cell? ⟨w.heap.size + 1, 0, none⟩ = some (.int .i64 s.a) := HP.out.kb.cell 0 rfl
          have fs : wr.frozen? ⟨w.heap.size + 1, 0, none⟩ = false := HP.out.kb.free 0
          have hw : wrap64 (wrap64 (s.a + lim) - t) = s.a + (lim - t) := by unfold wrap64; omega
          have HP2 := Lib.hid (HP.out.set (t := s.add 0 (lim - t)) 0 (s.a + (lim - t)) (by simp [Six.cells, Six.add]))
          go_upto_region 15 with fail
          first | rw [hw] | skip
          change Code.wp _ _ _ _ (wr.setCell ⟨w.heap.size + 1, 0, none⟩ (.int .i64 (s.a + (lim - t))))
          have HF2 := Lib.hid (show phasesF l sym lim = s.add 0 (lim - t) from by rw [HF.out, ← HX.out]; rfl)
          clear cs fs hw HP HF HX HO
          generalize wr.setCell ⟨w.heap.size + 1, 0, none⟩ (.int .i64 (s.a + (lim - t))) = w3 at HP2 ⊢
          generalize s.add 0 (lim - t) = y at HP2 HF2
          obtain ⟨y1, y2, y3, y4, y5, y6⟩ := y
          have HA := HP2.out.ab
          unfold six0 Six.cells at HA
          have q0 : w3.cell? ⟨w.heap.size, 0, none⟩ = some (.int .i64 0) := HA.cell 0 rfl
          have q1 : w3.cell? ⟨w.heap.size, 1, none⟩ = some (.int .i64 0) := HA.cell 1 rfl
          have q2 : w3.cell? ⟨w.heap.size, 2, none⟩ = some (.int .i64 0) := HA.cell 2 rfl
          have q3 : w3.cell? ⟨w.heap.size, 3, none⟩ = some (.int .i64 0) := HA.cell 3 rfl
          have q4 : w3.cell? ⟨w.heap.size, 4, none⟩ = some (.int .i64 0) := HA.cell 4 rfl
          have q5 : w3.cell? ⟨w.heap.size, 5, none⟩ = some (.int .i64 0) := HA.cell 5 rfl
          have f0 := HA.free 0
          have f1 := HA.free 1
          have f2 := HA.free 2
          have f3 := HA.free 3
          have f4 := HA.free 4
          have f5 := HA.free 5
          have r0 : w3.cell? ⟨w.heap.size + 1, 0, none⟩ = some (.int .i64 y1) := HP2.out.kb.cell 0 rfl
          have r1 : w3.cell? ⟨w.heap.size + 1, 1, none⟩ = some (.int .i64 y2) := HP2.out.kb.cell 1 rfl
          have r2 : w3.cell? ⟨w.heap.size + 1, 2, none⟩ = some (.int .i64 y3) := HP2.out.kb.cell 2 rfl
          have r3 : w3.cell? ⟨w.heap.size + 1, 3, none⟩ = some (.int .i64 y4) := HP2.out.kb.cell 3 rfl
          have r4 : w3.cell? ⟨w.heap.size + 1, 4, none⟩ = some (.int .i64 y5) := HP2.out.kb.cell 4 rfl
          have r5 : w3.cell? ⟨w.heap.size + 1, 5, none⟩ = some (.int .i64 y6) := HP2.out.kb.cell 5 rfl
          have HZ := Lib.hid ((((((HA.set 0 (.int .i64 y1)).set 1 (.int .i64 y2)).set 2 (.int .i64 y3)).set 3 (.int .i64 y4)).set 4 (.int .i64 y5)).set 5 (.int .i64 y6))
          have HZB := Lib.hid ((((((HP2.out.bel.setCell (p := ⟨w.heap.size, 0, none⟩) (Nat.le_refl _) (.int .i64 y1)).setCell (p := ⟨w.heap.size, 1, none⟩) (Nat.le_refl _) (.int .i64 y2)).setCell (p := ⟨w.heap.size, 2, none⟩) (Nat.le_refl _) (.int .i64 y3)).setCell (p := ⟨w.heap.size, 3, none⟩) (Nat.le_refl _) (.int .i64 y4)).setCell (p := ⟨w.heap.size, 4, none⟩) (Nat.le_refl _) (.int .i64 y5)).setCell (p := ⟨w.heap.size, 5, none⟩) (Nat.le_refl _) (.int .i64 y6))
          have HZ2 := Lib.hid (show Blk _ w.heap.size #[.int .i64 y1, .int .i64 y2, .int .i64 y3, .int .i64 y4, .int .i64 y5, .int .i64 y6] 87 from by simpa using HZ.out)
          clear HA HZ
          go_wp2_with fail
          refine bodyPost_ret (results_cell_row rfl _ _ _ _ _ (0, 0) _ rfl HZ2.out Tryd.underlying87 rfl (by kernel_rfl)) rfl ?_
          exact ⟨by rw [HF2.out]; rfl, HZB.out⟩
        · have cs : wr.cell? ⟨w.heap.size + 1, 1, none⟩ = some (.int .i64 s.b) := HP.out.kb.cell 1 rfl
          have fs : wr.frozen? ⟨w.heap.size + 1, 1, none⟩ = false := HP.out.kb.free 1
          have hw : wrap64 (wrap64 (s.b + lim) - t) = s.b + (lim - t) := by unfold wrap64; omega
          have HP2 := Lib.hid (HP.out.set (t := s.add 1 (lim - t)) 1 (s.b + (lim - t)) (by simp [Six.cells, Six.add]))
          go_upto_region 15 with fail
          first | rw [hw] | skip
          change Code.wp _ _ _ _ (wr.setCell ⟨w.heap.size + 1, 1, none⟩ (.int .i64 (s.b + (lim - t))))
          have HF2 := Lib.hid (show phasesF l sym lim = s.add 1 (lim - t) from by rw [HF.out, ← HX.out]; rfl)
          clear cs fs hw HP HF HX HO
          generalize wr.setCell ⟨w.heap.size + 1, 1, none⟩ (.int .i64 (s.b + (lim - t))) = w3 at HP2 ⊢
          generalize s.add 1 (lim - t) = y at HP2 HF2
          obtain ⟨y1, y2, y3, y4, y5, y6⟩ := y
          have HA := HP2.out.ab
          unfold six0 Six.cells at HA
          have q0 : w3.cell? ⟨w.heap.size, 0, none⟩ = some (.int .i64 0) := HA.cell 0 rfl
          have q1 : w3.cell? ⟨w.heap.size, 1, none⟩ = some (.int .i64 0) := HA.cell 1 rfl
          have q2 : w3.cell? ⟨w.heap.size, 2, none⟩ = some (.int .i64 0) := HA.cell 2 rfl
          have q3 : w3.cell? ⟨w.heap.size, 3, none⟩ = some (.int .i64 0) := HA.cell 3 rfl
          have q4 : w3.cell? ⟨w.heap.size, 4, none⟩ = some (.int .i64 0) := HA.cell 4 rfl
          have q5 : w3.cell? ⟨w.heap.size, 5, none⟩ = some (.int .i64 0) := HA.cell 5 rfl
          have f0 := HA.free 0
          have f1 := HA.free 1
          have f2 := HA.free 2
          have f3 := HA.free 3
          have f4 := HA.free 4
          have f5 := HA.free 5
          have r0 : w3.cell? ⟨w.heap.size + 1, 0, none⟩ = some (.int .i64 y1) := HP2.out.kb.cell 0 rfl
          have r1 : w3.cell? ⟨w.heap.size + 1, 1, none⟩ = some (.int .i64 y2) := HP2.out.kb.cell 1 rfl
          have r2 : w3.cell? ⟨w.heap.size + 1, 2, none⟩ = some (.int .i64 y3) := HP2.out.kb.cell 2 rfl
          have r3 : w3.cell? ⟨w.heap.size + 1, 3, none⟩ = some (.int .i64 y4) := HP2.out.kb.cell 3 rfl
          have r4 : w3.cell? ⟨w.heap.size + 1, 4, none⟩ = some (.int .i64 y5) := HP2.out.kb.cell 4 rfl
          have r5 : w3.cell? ⟨w.heap.size + 1, 5, none⟩ = some (.int .i64 y6) := HP2.out.kb.cell 5 rfl
          have HZ := Lib.hid ((((((HA.set 0 (.int .i64 y1)).set 1 (.int .i64 y2)).set 2 (.int .i64 y3)).set 3 (.int .i64 y4)).set 4 (.int .i64 y5)).set 5 (.int .i64 y6))
          have HZB := Lib.hid ((((((HP2.out.bel.setCell (p := ⟨w.heap.size, 0, none⟩) (Nat.le_refl _) (.int .i64 y1)).setCell (p := ⟨w.heap.size, 1, none⟩) (Nat.le_refl _) (.int .i64 y2)).setCell (p := ⟨w.heap.size, 2, none⟩) (Nat.le_refl _) (.int .i64 y3)).setCell (p := ⟨w.heap.size, 3, none⟩) (Nat.le_refl _) (.int .i64 y4)).setCell (p := ⟨w.heap.size, 4, none⟩) (Nat.le_refl _) (.int .i64 y5)).setCell (p := ⟨w.heap.size, 5, none⟩) (Nat.le_refl _) (.int .i64 y6))
          have HZ2 := Lib.hid (show Blk _ w.heap.size #[.int .i64 y1, .int .i64 y2, .int .i64 y3, .int .i64 y4, .int .i64 y5, .int .i64 y6] 87 from by simpa using HZ.out)
          clear HA HZ
          go_wp2_with fail
          refine bodyPost_ret (results_cell_row rfl _ _ _ _ _ (0, 0) _ rfl HZ2.out Tryd.underlying87 rfl (by kernel_rfl)) rfl ?_
          exact ⟨by rw [HF2.out]; rfl, HZB.out⟩
        · have cs : wr.cell? ⟨w.heap.size + 1, 2, none⟩ = some (.int .i64 s.c) := HP.out.kb.cell 2 rfl
          have fs : wr.frozen? ⟨w.heap.size + 1, 2, none⟩ = false := HP.out.kb.free 2
          have hw : wrap64 (wrap64 (s.c + lim) - t) = s.c + (lim - t) := by unfold wrap64; omega
          have HP2 := Lib.hid (HP.out.set (t := s.add 2 (lim - t)) 2 (s.c + (lim - t)) (by simp [Six.cells, Six.add]))
          go_upto_region 15 with fail
          first | rw [hw] | skip
          change Code.wp _ _ _ _ (wr.setCell ⟨w.heap.size + 1, 2, none⟩ (.int .i64 (s.c + (lim - t))))
          have HF2 := Lib.hid (show phasesF l sym lim = s.add 2 (lim - t) from by rw [HF.out, ← HX.out]; rfl)
          clear cs fs hw HP HF HX HO
          generalize wr.setCell ⟨w.heap.size + 1, 2, none⟩ (.int .i64 (s.c + (lim - t))) = w3 at HP2 ⊢
          generalize s.add 2 (lim - t) = y at HP2 HF2
          obtain ⟨y1, y2, y3, y4, y5, y6⟩ := y
          have HA := HP2.out.ab
          unfold six0 Six.cells at HA
          have q0 : w3.cell? ⟨w.heap.size, 0, none⟩ = some (.int .i64 0) := HA.cell 0 rfl
          have q1 : w3.cell? ⟨w.heap.size, 1, none⟩ = some (.int .i64 0) := HA.cell 1 rfl
          have q2 : w3.cell? ⟨w.heap.size, 2, none⟩ = some (.int .i64 0) := HA.cell 2 rfl
          have q3 : w3.cell? ⟨w.heap.size, 3, none⟩ = some (.int .i64 0) := HA.cell 3 rfl
          have q4 : w3.cell? ⟨w.heap.size, 4, none⟩ = some (.int .i64 0) := HA.cell 4 rfl
          have q5 : w3.cell? ⟨w.heap.size, 5, none⟩ = some (.int .i64 0) := HA.cell 5 rfl
          have f0 := HA.free 0
          have f1 := HA.free 1
          have f2 := HA.free 2
          have f3 := HA.free 3
          have f4 := HA.free 4
          have f5 := HA.free 5
          have r0 : w3.cell? ⟨w.heap.size + 1, 0, none⟩ = some (.int .i64 y1) := HP2.out.kb.cell 0 rfl
          have r1 : w3.cell? ⟨w.heap.size + 1, 1, none⟩ = some (.int .i64 y2) := HP2.out.kb.cell 1 rfl
          have r2 : w3.cell? ⟨w.heap.size + 1, 2, none⟩ = some (.int .i64 y3) := HP2.out.kb.cell 2 rfl
          have r3 : w3.cell? ⟨w.heap.size + 1, 3, none⟩ = some (.int .i64 y4) := HP2.out.kb.cell 3 rfl
          have r4 : w3.cell? ⟨w.heap.size + 1, 4, none⟩ = some (.int .i64 y5) := HP2.out.kb.cell 4 rfl
          have r5 : w3.cell? ⟨w.heap.size + 1, 5, none⟩ = some (.int .i64 y6) := HP2.out.kb.cell 5 rfl
          have HZ := Lib.hid ((((((HA.set 0 (.int .i64 y1)).set 1 (.int .i64 y2)).set 2 (.int .i64 y3)).set 3 (.int .i64 y4)).set 4 (.int .i64 y5)).set 5 (.int .i64 y6))
          have HZB := Lib.hid ((((((HP2.out.bel.setCell (p := ⟨w.heap.size, 0, none⟩) (Nat.le_refl _) (.int .i64 y1)).setCell (p := ⟨w.heap.size, 1, none⟩) (Nat.le_refl _) (.int .i64 y2)).setCell (p := ⟨w.heap.size, 2, none⟩) (Nat.le_refl _) (.int .i64 y3)).setCell (p := ⟨w.heap.size, 3, none⟩) (Nat.le_refl _) (.int .i64 y4)).setCell (p := ⟨w.heap.size, 4, none⟩) (Nat.le_refl _) (.int .i64 y5)).setCell (p := ⟨w.heap.size, 5, none⟩) (Nat.le_refl _) (.int .i64 y6))
          have HZ2 := Lib.hid (show Blk _ w.heap.size #[.int .i64 y1, .int .i64 y2, .int .i64 y3, .int .i64 y4, .int .i64 y5, .int .i64 y6] 87 from by simpa using HZ.out)
          clear HA HZ
          go_wp2_with fail
          refine bodyPost_ret (results_cell_row rfl _ _ _ _ _ (0, 0) _ rfl HZ2.out Tryd.underlying87 rfl (by kernel_rfl)) rfl ?_
          exact ⟨by rw [HF2.out]; rfl, HZB.out⟩
        · have cs : wr.cell? ⟨w.heap.size + 1, 3, none⟩ = some (.int .i64 s.d) := HP.out.kb.cell 3 rfl
          have fs : wr.frozen? ⟨w.heap.size + 1, 3, none⟩ = false := HP.out.kb.free 3
          have hw : wrap64 (wrap64 (s.d + lim) - t) = s.d + (lim - t) := by unfold wrap64; omega
          have HP2 := Lib.hid (HP.out.set (t := s.add 3 (lim - t)) 3 (s.d + (lim - t)) (by simp [Six.cells, Six.add]))
          go_upto_region 15 with fail
          first | rw [hw] | skip
          change Code.wp _ _ _ _ (wr.setCell ⟨w.heap.size + 1, 3, none⟩ (.int .i64 (s.d + (lim - t))))
          have HF2 := Lib.hid (show phasesF l sym lim = s.add 3 (lim - t) from by rw [HF.out, ← HX.out]; rfl)
          clear cs fs hw HP HF HX HO
          generalize wr.setCell ⟨w.heap.size + 1, 3, none⟩ (.int .i64 (s.d + (lim - t))) = w3 at HP2 ⊢
          generalize s.add 3 (lim - t) = y at HP2 HF2
          obtain ⟨y1, y2, y3, y4, y5, y6⟩ := y
          have HA := HP2.out.ab
          unfold six0 Six.cells at HA
          have q0 : w3.cell? ⟨w.heap.size, 0, none⟩ = some (.int .i64 0) := HA.cell 0 rfl
          have q1 : w3.cell? ⟨w.heap.size, 1, none⟩ = some (.int .i64 0) := HA.cell 1 rfl
          have q2 : w3.cell? ⟨w.heap.size, 2, none⟩ = some (.int .i64 0) := HA.cell 2 rfl
          have q3 : w3.cell? ⟨w.heap.size, 3, none⟩ = some (.int .i64 0) := HA.cell 3 rfl
          have q4 : w3.cell? ⟨w.heap.size, 4, none⟩ = some (.int .i64 0) := HA.cell 4 rfl
          have q5 : w3.cell? ⟨w.heap.size, 5, none⟩ = some (.int .i64 0) := HA.cell 5 rfl
          have f0 := HA.free 0
          have f1 := HA.free 1
          have f2 := HA.free 2
          have f3 := HA.free 3
          have f4 := HA.free 4
          have f5 := HA.free 5
          have r0 : w3.cell? ⟨w.heap.size + 1, 0, none⟩ = some (.int .i64 y1) := HP2.out.kb.cell 0 rfl
          have r1 : w3.cell? ⟨w.heap.size + 1, 1, none⟩ = some (.int .i64 y2) := HP2.out.kb.cell 1 rfl
          have r2 : w3.cell? ⟨w.heap.size + 1, 2, none⟩ = some (.int .i64 y3) := HP2.out.kb.cell 2 rfl
          have r3 : w3.cell? ⟨w.heap.size + 1, 3, none⟩ = some (.int .i64 y4) := HP2.out.kb.cell 3 rfl
          have r4 : w3.cell? ⟨w.heap.size + 1, 4, none⟩ = some (.int .i64 y5) := HP2.out.kb.cell 4 rfl
          have r5 : w3.cell? ⟨w.heap.size + 1, 5, none⟩ = some (.int .i64 y6) := HP2.out.kb.cell 5 rfl
          have HZ := Lib.hid ((((((HA.set 0 (.int .i64 y1)).set 1 (.int .i64 y2)).set 2 (.int .i64 y3)).set 3 (.int .i64 y4)).set 4 (.int .i64 y5)).set 5 (.int .i64 y6))
          have HZB := Lib.hid ((((((HP2.out.bel.setCell (p := ⟨w.heap.size, 0, none⟩) (Nat.le_refl _) (.int .i64 y1)).setCell (p := ⟨w.heap.size, 1, none⟩) (Nat.le_refl _) (.int .i64 y2)).setCell (p := ⟨w.heap.size, 2, none⟩) (Nat.le_refl _) (.int .i64 y3)).setCell (p := ⟨w.heap.size, 3, none⟩) (Nat.le_refl _) (.int .i64 y4)).setCell (p := ⟨w.heap.size, 4, none⟩) (Nat.le_refl _) (.int .i64 y5)).setCell (p := ⟨w.heap.size, 5, none⟩) (Nat.le_refl _) (.int .i64 y6))
          have HZ2 := Lib.hid (show Blk _ w.heap.size #[.int .i64 y1, .int .i64 y2, .int .i64 y3, .int .i64 y4, .int .i64 y5, .int .i64 y6] 87 from by simpa using HZ.out)
          clear HA HZ
          go_wp2_with fail
          refine bodyPost_ret (results_cell_row rfl _ _ _ _ _ (0, 0) _ rfl HZ2.out Tryd.underlying87 rfl (by kernel_rfl)) rfl ?_
          exact ⟨by rw [HF2.out]; rfl, HZB.out⟩
        · have cs : wr.cell? ⟨w.heap.size + 1, 4, none⟩ = some (.int .i64 s.e) := HP.out.kb.cell 4 rfl
          have fs : wr.frozen? ⟨w.heap.size + 1, 4, none⟩ = false := HP.out.kb.free 4
          have hw : wrap64 (wrap64 (s.e + lim) - t) = s.e + (lim - t) := by unfold wrap64; omega
          have HP2 := Lib.hid (HP.out.set (t := s.add 4 (lim - t)) 4 (s.e + (lim - t)) (by simp [Six.cells, Six.add]))
          go_upto_region 15 with fail
          first | rw [hw] | skip
          change Code.wp _ _ _ _ (wr.setCell ⟨w.heap.size + 1, 4, none⟩ (.int .i64 (s.e + (lim - t))))
          have HF2 := Lib.hid (show phasesF l sym lim = s.add 4 (lim - t) from by rw [HF.out, ← HX.out]; rfl)
          clear cs fs hw HP HF HX HO
          generalize wr.setCell ⟨w.heap.size + 1, 4, none⟩ (.int .i64 (s.e + (lim - t))) = w3 at HP2 ⊢
          generalize s.add 4 (lim - t) = y at HP2 HF2
          obtain ⟨y1, y2, y3, y4, y5, y6⟩ := y
          have HA := HP2.out.ab
          unfold six0 Six.cells at HA
          have q0 : w3.cell? ⟨w.heap.size, 0, none⟩ = some (.int .i64 0) := HA.cell 0 rfl
          have q1 : w3.cell? ⟨w.heap.size, 1, none⟩ = some (.int .i64 0) := HA.cell 1 rfl
          have q2 : w3.cell? ⟨w.heap.size, 2, none⟩ = some (.int .i64 0) := HA.cell 2 rfl
          have q3 : w3.cell? ⟨w.heap.size, 3, none⟩ = some (.int .i64 0) := HA.cell 3 rfl
          have q4 : w3.cell? ⟨w.heap.size, 4, none⟩ = some (.int .i64 0) := HA.cell 4 rfl
          have q5 : w3.cell? ⟨w.heap.size, 5, none⟩ = some (.int .i64 0) := HA.cell 5 rfl
          have f0 := HA.free 0
          have f1 := HA.free 1
          have f2 := HA.free 2
          have f3 := HA.free 3
          have f4 := HA.free 4
          have f5 := HA.free 5
          have r0 : w3.cell? ⟨w.heap.size + 1, 0, none⟩ = some (.int .i64 y1) := HP2.out.kb.cell 0 rfl
          have r1 : w3.cell? ⟨w.heap.size + 1, 1, none⟩ = some (.int .i64 y2) := HP2.out.kb.cell 1 rfl
          have r2 : w3.cell? ⟨w.heap.size + 1, 2, none⟩ = some (.int .i64 y3) := HP2.out.kb.cell 2 rfl
          have r3 : w3.cell? ⟨w.heap.size + 1, 3, none⟩ = some (.int .i64 y4) := HP2.out.kb.cell 3 rfl
          have r4 : w3.cell? ⟨w.heap.size + 1, 4, none⟩ = some (.int .i64 y5) := HP2.out.kb.cell 4 rfl
          have r5 : w3.cell? ⟨w.heap.size + 1, 5, none⟩ = some (.int .i64 y6) := HP2.out.kb.cell 5 rfl
          have HZ := Lib.hid ((((((HA.set 0 (.int .i64 y1)).set 1 (.int .i64 y2)).set 2 (.int .i64 y3)).set 3 (.int .i64 y4)).set 4 (.int .i64 y5)).set 5 (.int .i64 y6))
          have HZB := Lib.hid ((((((HP2.out.bel.setCell (p := ⟨w.heap.size, 0, none⟩) (Nat.le_refl _) (.int .i64 y1)).setCell (p := ⟨w.heap.size, 1, none⟩) (Nat.le_refl _) (.int .i64 y2)).setCell (p := ⟨w.heap.size, 2, none⟩) (Nat.le_refl _) (.int .i64 y3)).setCell (p := ⟨w.heap.size, 3, none⟩) (Nat.le_refl _) (.int .i64 y4)).setCell (p := ⟨w.heap.size, 4, none⟩) (Nat.le_refl _) (.int .i64 y5)).setCell (p := ⟨w.heap.size, 5, none⟩) (Nat.le_refl _) (.int .i64 y6))
          have HZ2 := Lib.hid (show Blk _ w.heap.size #[.int .i64 y1, .int .i64 y2, .int .i64 y3, .int .i64 y4, .int .i64 y5, .int .i64 y6] 87 from by simpa using HZ.out)
          clear HA HZ
          go_wp2_with fail
          refine bodyPost_ret (results_cell_row rfl _ _ _ _ _ (0, 0) _ rfl HZ2.out Tryd.underlying87 rfl (by kernel_rfl)) rfl ?_
          exact ⟨by rw [HF2.out]; rfl, HZB.out⟩
        · have cs : wr.cell? ⟨w.heap.size + 1, 5, none⟩ = some (.int .i64 s.f) := HP.out.kb.cell 5 rfl
          have fs : wr.frozen? ⟨w.heap.size + 1, 5, none⟩ = false := HP.out.kb.free 5
          have hw : wrap64 (wrap64 (s.f + lim) - t) = s.f + (lim - t) := by unfold wrap64; omega
          have HP2 := Lib.hid (HP.out.set (t := s.add 5 (lim - t)) 5 (s.f + (lim - t)) (by simp [Six.cells, Six.add]))
          go_upto_region 15 with fail
          first | rw [hw] | skip
          change Code.wp _ _ _ _ (wr.setCell ⟨w.heap.size + 1, 5, none⟩ (.int .i64 (s.f + (lim - t))))
          have HF2 := Lib.hid (show phasesF l sym lim = s.add 5 (lim - t) from by rw [HF.out, ← HX.out]; rfl)
          clear cs fs hw HP HF HX HO
          generalize wr.setCell ⟨w.heap.size + 1, 5, none⟩ (.int .i64 (s.f + (lim - t))) = w3 at HP2 ⊢
          generalize s.add 5 (lim - t) = y at HP2 HF2
          obtain ⟨y1, y2, y3, y4, y5, y6⟩ := y
          have HA := HP2.out.ab
          unfold six0 Six.cells at HA
          have q0 : w3.cell? ⟨w.heap.size, 0, none⟩ = some (.int .i64 0) := HA.cell 0 rfl
          have q1 : w3.cell? ⟨w.heap.size, 1, none⟩ = some (.int .i64 0) := HA.cell 1 rfl
          have q2 : w3.cell? ⟨w.heap.size, 2, none⟩ = some (.int .i64 0) := HA.cell 2 rfl
          have q3 : w3.cell? ⟨w.heap.size, 3, none⟩ = some (.int .i64 0) := HA.cell 3 rfl
          have q4 : w3.cell? ⟨w.heap.size, 4, none⟩ = some (.int .i64 0) := HA.cell 4 rfl
          have q5 : w3.cell? ⟨w.heap.size, 5, none⟩ = some (.int .i64 0) := HA.cell 5 rfl
          have f0 := HA.free 0
          have f1 := HA.free 1
          have f2 := HA.free 2
          have f3 := HA.free 3
          have f4 := HA.free 4
          have f5 := HA.free 5
          have r0 : w3.cell? ⟨w.heap.size + 1, 0, none⟩ = some (.int .i64 y1) := HP2.out.kb.cell 0 rfl
          have r1 : w3.cell? ⟨w.heap.size + 1, 1, none⟩ = some (.int .i64 y2) := HP2.out.kb.cell 1 rfl
          have r2 : w3.cell? ⟨w.heap.size + 1, 2, none⟩ = some (.int .i64 y3) := HP2.out.kb.cell 2 rfl
          have r3 : w3.cell? ⟨w.heap.size + 1, 3, none⟩ = some (.int .i64 y4) := HP2.out.kb.cell 3 rfl
          have r4 : w3.cell? ⟨w.heap.size + 1, 4, none⟩ = some (.int .i64 y5) := HP2.out.kb.cell 4 rfl
          have r5 : w3.cell? ⟨w.heap.size + 1, 5, none⟩ = some (.int .i64 y6) := HP2.out.kb.cell 5 rfl
          have HZ := Lib.hid ((((((HA.set 0 (.int .i64 y1)).set 1 (.int .i64 y2)).set 2 (.int .i64 y3)).set 3 (.int .i64 y4)).set 4 (.int .i64 y5)).set 5 (.int .i64 y6))
          have HZB := Lib.hid ((((((HP2.out.bel.setCell (p := ⟨w.heap.size, 0, none⟩) (Nat.le_refl _) (.int .i64 y1)).setCell (p := ⟨w.heap.size, 1, none⟩) (Nat.le_refl _) (.int .i64 y2)).setCell (p := ⟨w.heap.size, 2, none⟩) (Nat.le_refl _) (.int .i64 y3)).setCell (p := ⟨w.heap.size, 3, none⟩) (Nat.le_refl _) (.int .i64 y4)).setCell (p := ⟨w.heap.size, 4, none⟩) (Nat.le_refl _) (.int .i64 y5)).setCell (p := ⟨w.heap.size, 5, none⟩) (Nat.le_refl _) (.int .i64 y6))
          have HZ2 := Lib.hid (show Blk _ w.heap.size #[.int .i64 y1, .int .i64 y2, .int .i64 y3, .int .i64 y4, .int .i64 y5, .int .i64 y6] 87 from by simpa using HZ.out)
          clear HA HZ
          go_wp2_with fail
          refine bodyPost_ret (results_cell_row rfl _ _ _ _ _ (0, 0) _ rfl HZ2.out Tryd.underlying87 rfl (by kernel_rfl)) rfl ?_
          exact ⟨by rw [HF2.out]; rfl, HZB.out⟩
end Go.Proofs.YtmkcooamgojbpaaDoor.Phases
