/- The document's ledger: owed, taken, rests, fill. -/
import Derived.Test.YtmkcooamgojbpaaL31
import Derived.Maps.AppendAt
namespace Go.Proofs.Ytmkcooamgojbpaa.Ledger
open Go.RowKit Go.Proofs.Ytmkcooamgojbpaa.Kit Go.Proofs.Ytmkcooamgojbpaa.Blk Go.Proofs.Ytmkcooamgojbpaa.Mp Go.Proofs.Ytmkcooamgojbpaa.Msgs Go.Proofs.Ytmkcooamgojbpaa.Own
attribute [local go_sem ↓] Go.wp_at_zero Go.wp_at_succ
set_option linter.unusedVariables false

theorem wrap_i64 {n : Int} (h0 : -9223372036854775808 ≤ n) (h1 : n ≤ 9223372036854775807) : IntKind.i64.wrap n = n := by
  rw [IntKind.wrap_i64]
  omega
theorem owed_any (a : Acc) (h : AccIn 1125899906842624 a) (w : World) : Calls Try.prog 22 #[.agg a.cells] w fun e w' => e = .returned (.int .i64 (owesA a)) ∧ Below w.heap.size w w' := by
  obtain ⟨⟨h1, h2⟩, ⟨h3, h4⟩, ⟨h5, h6⟩, h7, h8⟩ := h
  unfold Acc.cells owesA
  go_enter Try.func22, Try.ntmps22
  go_wp2_with fail
  go_ret
  exact ⟨rfl, (Below.refl _ _).alloc (Nat.le_refl _) _⟩
theorem rtaken_any (n : Int) (w : World) : Calls Try.prog 18 #[.int .i64 n] w fun e w' => e = .returned (.bool (takenB n)) ∧ w = w' := by
  unfold takenB
  by_cases h0 : 0 ≤ n
  · by_cases h1 : n ≤ 4294967296
    · have b0 : decide (0 ≤ n) = true := by simpa using h0
      have b1 : decide (n ≤ 4294967296) = true := by simpa using h1
      clear h0 h1
      go_enter Try.func18, Try.ntmps18
      go_wp2_with fail
      go_ret
      exact ⟨by rw [b0, b1]; rfl, rfl⟩
    · have b0 : decide (0 ≤ n) = true := by simpa using h0
      have b1 : decide (n ≤ 4294967296) = false := by simpa using h1
      clear h0 h1
      go_enter Try.func18, Try.ntmps18
      go_wp2_with fail
      go_ret
      exact ⟨by rw [b0, b1]; rfl, rfl⟩
  · have b0 : decide (0 ≤ n) = false := by simpa using h0
    clear h0
    go_enter Try.func18, Try.ntmps18
    go_wp2_with fail
    go_ret
    exact ⟨by rw [b0]; rfl, rfl⟩
/-- The account of a key that is not old. -/
def accD (k : Key) (l : List DRow) : Option Acc := (l.find? (liveB k)).map (·.a)
theorem find_acc {k : Key} {l : List DRow} : (∃ i, ∃ hi : i < l.length, findN k l = i ∧ findD k l = (i : Int) ∧ accD k l = some l[i].a ∧ liveB k l[i] = true) ∨ (findD k l = -1 ∧ accD k l = none) := by
  cases h : l.find? (liveB k) with
  | none =>
    right
    have hn : ∀ j, (hj : j < l.length) → liveB k l[j] = false := fun j hj => by
      have := List.find?_eq_none.1 h _ (List.getElem_mem hj)
      simpa using this
    exact ⟨find_no hn, by unfold accD; rw [h]; rfl⟩
  | some r =>
    left
    obtain ⟨hp, i, hi, hr, hb⟩ := List.find?_eq_some_iff_getElem.1 h
    have hli : liveB k l[i] = true := by rw [hr]; exact hp
    have hno : ∀ j, (hj : j < l.length) → j < i → liveB k l[j] = false := fun j hj hji => by simpa using hb j hji
    refine ⟨i, hi, ?_, find_yes hi hno hli, by unfold accD; rw [h, hr]; rfl, hli⟩
    unfold findN
    rw [List.findIdx_eq hi]
    exact ⟨hli, fun j hj => hno j (by omega) hj⟩
def restsD (k : Key) (l : List DRow) (q : Int) : Bool := match accD k l with
  | none => false
  | some a => decide (q ≤ a.rest)
theorem rests_any (N R : Nat) (l es : List DRow) (v u : Value) (k1 k2 q : Int) (w : World) (h : RS N w R l es v u) :
    Calls Try.prog 31 #[.pointer (some ⟨R, 0, none⟩), .int .i64 k1, .int .i64 k2, .int .i64 q] w fun e w' => e = .returned (.bool (restsD (k1, k2) l q)) ∧ w = w' := by
  have HF := Lib.hid (findr_any N R l es v u k1 k2 w h)
  obtain ⟨hR, -, hrow, -, -⟩ := h
  obtain ⟨a, cap, rfl, hc1, hc2, hat⟩ := owned_at DRow.cells 7 cells_size hrow
  have cR : w.cell? ⟨R, 0, none⟩ = some (.slice a l.length cap) := hR.cell 0 rfl
  unfold maxLen at hc2
  clear hrow hR
  rcases find_acc (k := (k1, k2)) (l := l) with ⟨i, hi, -, hfd, hac, -⟩ | ⟨hfd, hac⟩
  · rw [hfd] at HF
    have HE := Lib.hid (show restsD (k1, k2) l q = decide (q ≤ l[i].a.rest) by unfold restsD; rw [hac])
    obtain ⟨g, rfl, -, -, hg⟩ := hat i hi
    have c5 : w.cell? ⟨g, i * 7 + 5, none⟩ = some (.int .i64 l[i].a.rest) := hg 5 _ rfl
    clear hfd hac hat hg
    generalize l[i].a.rest = y at c5 HE
    have g0 : (0 : Int) ≤ (i : Int) := by omega
    have g1 : (i : Int) < (l.length : Int) := by omega
    go_enter Try.func31, Try.ntmps31
    go_wp2_with fail
    refine HF.out.mono ?_
    rintro e w1 ⟨rfl, rfl⟩
    by_cases hq : q ≤ y
    · have b : decide (q ≤ y) = true := by simpa using hq
      clear hq
      go_wp2_with fail
      go_ret
      exact ⟨by rw [HE.out, b]; rfl, rfl⟩
    · have b : decide (q ≤ y) = false := by simpa using hq
      clear hq
      go_wp2_with fail
      go_ret
      exact ⟨by rw [HE.out, b]; rfl, rfl⟩
  · rw [hfd] at HF
    have HE := Lib.hid (show restsD (k1, k2) l q = false by unfold restsD; rw [hac])
    clear hfd hac hat
    go_enter Try.func31, Try.ntmps31
    go_wp2_with fail
    refine HF.out.mono ?_
    rintro e w1 ⟨rfl, rfl⟩
    go_wp2_with fail
    go_ret
    exact ⟨by rw [HE.out]; rfl, rfl⟩

section
variable {N R g cap : Nat} {l es : List DRow} {v u : Value} {W W' : World}
theorem RS.drew (h : RS N W R l es v u) : RS N W.drew R l es v u := ⟨h.box, h.lt, h.row.drew, h.ear.drew, h.ne⟩
theorem RS.kept {row : Option Nat} (h : RS N W R l es v u) (hg : W.grownBy W' row) (h0 : row ≠ some R) (h1 : v.ownBlock = none ∨ v.ownBlock ≠ row) (h2 : u.ownBlock = none ∨ u.ownBlock ≠ row) : RS N W' R l es v u :=
  ⟨(hg.block R h.box.lt (fun e => h0 e.symm)).trans h.box, h.lt, h.row.kept hg h1, h.ear.kept hg h2, h.ne⟩
theorem RS.below (h : RS N W R l es v u) (hb : Below W.heap.size W W') : RS N W' R l es v u :=
  h.kept (row := none) ⟨hb.os, hb.tape, hb.output, hb.size, fun k hk _ => hb.block k hk⟩ (by simp) (by cases v.ownBlock <;> simp) (by cases u.ownBlock <;> simp)
theorem cell_grown (W : World) (b j : Nat) (x : Value) : W.grownBy (W.setCell ⟨b, j, none⟩ x) (some b) :=
  ⟨rfl, rfl, rfl, by simp [World.setCell], fun k _ hk => Below.heap_setCell _ _ _ k (fun e => hk (by rw [e]))⟩
theorem RS.len {n : Nat} (h : RS N W R l es (.slice (some ⟨g, 0, none⟩) n cap) u) : n = l.length := by
  rcases h.row.2 with ⟨h0, _⟩ | ⟨g', cap', cur, hv, _⟩
  · cases h0
  · injection hv
theorem drew_grown {row : Option Nat} (h : W.drew.grownBy W' row) : W.grownBy W' row := ⟨h.os, h.tape, h.output, h.size, h.block⟩
theorem RS.set1 {n : Nat} (h : RS N W R l es (.slice (some ⟨g, 0, none⟩) n cap) u) (i : Nat) (hi : i < l.length) (j : Nat) (hj : j < 7) (x : Value) (r : DRow) (hr : r.cells.toList = l[i].cells.toList.set j x) :
    RS N (W.setCell ⟨g, i * 7 + j, none⟩ x) R (l.set i r) es (.slice (some ⟨g, 0, none⟩) n cap) u := by
  obtain rfl := h.len
  have hlt := h.row.lt g rfl
  have hR := h.lt
  refine ⟨h.box.apart _ _ (by show g ≠ R; omega), h.lt, ?_, h.ear.kept (cell_grown W g _ x) (.inr (h.ne g rfl)), h.ne⟩
  have := own_row1 DRow.cells 7 cells_size h.row i hi j hj x r hr
  simpa only [List.length_set] using this
theorem RS.form (h : RS N W R l es v u) (hl : 0 < l.length) : ∃ g cap, v = .slice (some ⟨g, 0, none⟩) l.length cap ∧ N ≤ g ∧ g < W.heap.size ∧ cap ≤ maxLen := by
  rcases h.row.2 with ⟨_, h0⟩ | ⟨g, cap, cur, hv, hg, hgb, _, hc, _⟩
  · omega
  · exact ⟨g, cap, hv, hg, (Array.getElem?_eq_some_iff.1 hgb).1, hc⟩
theorem RS.cell {n : Nat} (h : RS N W R l es (.slice (some ⟨g, 0, none⟩) n cap) u) (i : Nat) (hi : i < l.length) (j : Nat) (x : Value) (hx : l[i].cells[j]? = some x) : W.cell? ⟨g, i * 7 + j, none⟩ = some x := by
  obtain ⟨a, c, hv, _, _, hat⟩ := owned_at DRow.cells 7 cells_size h.row
  obtain ⟨g', ha, _, _, hr⟩ := hat i hi
  injection hv with hv
  subst ha
  injection hv with hv
  injection hv with hv
  subst hv
  exact hr j x (by simpa using hx)
theorem RS.free {n : Nat} (h : RS N W R l es (.slice (some ⟨g, 0, none⟩) n cap) u) (k : Nat) : W.frozen? ⟨g, k, none⟩ = false := by
  rcases h.row.2 with ⟨h0, _⟩ | ⟨g', cap', cur, hv, _, hgb, _⟩
  · cases h0
  · injection hv with hv
    injection hv with hv
    injection hv with hv
    subst hv
    exact (show Blk W g cur _ from hgb).free k
end
def fillR (q : Int) (r : DRow) : DRow := ⟨r.sym, r.id, fillA q r.a, r.old⟩
set_option maxRecDepth 20000 in
set_option maxHeartbeats 2000000 in
theorem fillr_any (N R : Nat) (l es : List DRow) (v u : Value) (k1 k2 q : Int) (w : World) (h : RS N w R l es v u) (i : Nat) (hi : i < l.length) (hfd : findD (k1, k2) l = (i : Int)) (hq : 0 ≤ q ∧ q ≤ 4294967296) (hin : AccIn 1125899906842624 l[i].a) :
    Calls Try.prog 32 #[.pointer (some ⟨R, 0, none⟩), .int .i64 k1, .int .i64 k2, .int .i64 q] w fun e w' => e = .returned (.tuple #[]) ∧ RS N w' R (l.set i (fillR q l[i])) es v u ∧ w.grownBy w' v.ownBlock := by
  have HF := Lib.hid (findr_any N R l es v u k1 k2 w h)
  rw [hfd] at HF
  obtain ⟨g, cap, rfl, hgN, hgl, hc2⟩ := h.form (by omega)
  have HR := Lib.hid h.drew
  have cR : w.drew.cell? ⟨R, 0, none⟩ = some (.slice (some ⟨g, 0, none⟩) l.length cap) := h.drew.box.cell 0 rfl
  have c5 : w.drew.cell? ⟨g, i * 7 + 5, none⟩ = some (.int .i64 l[i].a.rest) := h.drew.cell i hi 5 _ rfl
  have hfz : w.drew.frozen? ⟨g, i * 7 + 5, none⟩ = false := h.drew.free _
  obtain ⟨_, ⟨f1, f2⟩, _, e1, e2⟩ := hin
  obtain ⟨q1, q2⟩ := hq
  unfold maxLen at hc2
  have g0 : (0 : Int) ≤ (i : Int) := by omega
  have g1 : (i : Int) < (l.length : Int) := by omega
  have HR1 := Lib.hid (HR.out.set1 i hi 5 (by decide) (.int .i64 (l[i].a.rest - q)) ⟨l[i].sym, l[i].id, ⟨l[i].a.asked, l[i].a.filled, l[i].a.gone, l[i].a.rest - q⟩, l[i].old⟩ rfl)
  have hi1 : i < (l.set i ⟨l[i].sym, l[i].id, ⟨l[i].a.asked, l[i].a.filled, l[i].a.gone, l[i].a.rest - q⟩, l[i].old⟩).length := by simpa using hi
  have HC3 := Lib.hid (HR1.out.drew.cell i hi1 3 (.int .i64 l[i].a.filled) (by simp [DRow.cells]))
  have HR2 := Lib.hid (HR1.out.drew.set1 i hi1 3 (by decide) (.int .i64 (l[i].a.filled + q)) (fillR q l[i]) (by simp [DRow.cells, fillR, fillA]))
  have HS := Lib.hid (show ∀ x : DRow, (l.set i ⟨l[i].sym, l[i].id, ⟨l[i].a.asked, l[i].a.filled, l[i].a.gone, l[i].a.rest - q⟩, l[i].old⟩).set i x = l.set i x from fun x => by simp)
  clear h hfd
  go_enter Try.func32, Try.ntmps32
  go_wp2_with fail
  refine HF.out.mono ?_
  rintro e w1 ⟨rfl, rfl⟩
  go_upto_region 1 with fail
  refine Go.Proofs.Ytmkcooamgojbpaa.Veil.start 19 (by kernel_rfl) (by kernel_rfl) ?_
  simp only [List.take_succ_cons, List.take_zero, List.drop_succ_cons, List.drop_zero]
  (refine Go.Proofs.Ytmkcooamgojbpaa.Veil.step (fun K hK => ?_); go_simp; refine hK _ ?_; clear hK K)
  (refine Go.Proofs.Ytmkcooamgojbpaa.Veil.step (fun K hK => ?_); go_simp; refine hK _ ?_; clear hK K)
  (refine Go.Proofs.Ytmkcooamgojbpaa.Veil.step (fun K hK => ?_); go_simp; refine hK _ ?_; clear hK K)
  (refine Go.Proofs.Ytmkcooamgojbpaa.Veil.step (fun K hK => ?_); go_simp; refine hK _ ?_; clear hK K)
  (refine Go.Proofs.Ytmkcooamgojbpaa.Veil.step (fun K hK => ?_); go_simp; refine hK _ ?_; clear hK K)
  (refine Go.Proofs.Ytmkcooamgojbpaa.Veil.step (fun K hK => ?_); go_simp; refine hK _ ?_; clear hK K)
  (refine Go.Proofs.Ytmkcooamgojbpaa.Veil.step (fun K hK => ?_); go_simp; refine hK _ ?_; clear hK K)
  (refine Go.Proofs.Ytmkcooamgojbpaa.Veil.step (fun K hK => ?_); go_simp; refine hK _ ?_; clear hK K)
  (refine Go.Proofs.Ytmkcooamgojbpaa.Veil.step (fun K hK => ?_); go_simp; refine hK _ ?_; clear hK K)
  (refine Go.Proofs.Ytmkcooamgojbpaa.Veil.step (fun K hK => ?_); go_simp; refine hK _ ?_; clear hK K)
  (refine Go.Proofs.Ytmkcooamgojbpaa.Veil.step (fun K hK => ?_); go_simp; refine hK _ ?_; clear hK K)
  (refine Go.Proofs.Ytmkcooamgojbpaa.Veil.step (fun K hK => ?_); go_simp; refine hK _ ?_; clear hK K)
  (refine Go.Proofs.Ytmkcooamgojbpaa.Veil.step (fun K hK => ?_); go_simp; refine hK _ ?_; clear hK K)
  (refine Go.Proofs.Ytmkcooamgojbpaa.Veil.step (fun K hK => ?_); go_simp; refine hK _ ?_; clear hK K)
  (refine Go.Proofs.Ytmkcooamgojbpaa.Veil.step (fun K hK => ?_); go_simp; refine hK _ ?_; clear hK K)
  (refine Go.Proofs.Ytmkcooamgojbpaa.Veil.step (fun K hK => ?_); go_simp; refine hK _ ?_; clear hK K)
  (refine Go.Proofs.Ytmkcooamgojbpaa.Veil.step (fun K hK => ?_); go_simp; refine hK _ ?_; clear hK K)
  (refine Go.Proofs.Ytmkcooamgojbpaa.Veil.step (fun K hK => ?_); go_simp; refine hK _ ?_; clear hK K)
  (refine Go.Proofs.Ytmkcooamgojbpaa.Veil.step (fun K hK => ?_); go_simp; refine hK _ ?_; clear hK K)
  refine Go.Proofs.Ytmkcooamgojbpaa.Veil.nil ?_
  change wpList _ _ _ _ _ w.drew
  have hw : IntKind.i64.wrap (l[i].a.rest - q) = l[i].a.rest - q := wrap_i64 (by omega) (by omega)
  rw [hw, show i * 7 + 2 + 3 = i * 7 + 5 from rfl]
  go_upto_region 2 with fail
  change Code.wp _ _ _ _ (w.drew.setCell ⟨g, i * 7 + 5, none⟩ (.int .i64 (l[i].a.rest - q)))
  have HG := Lib.hid (show w.grownBy ((w.drew.setCell ⟨g, i * 7 + 5, none⟩ (.int .i64 (l[i].a.rest - q))).drew.setCell ⟨g, i * 7 + 3, none⟩ (.int .i64 (l[i].a.filled + q))) (some g) from
    (drew_grown (cell_grown w.drew g _ _)).trans (drew_grown (cell_grown (w.drew.setCell ⟨g, i * 7 + 5, none⟩ (.int .i64 (l[i].a.rest - q))).drew g _ _)))
  clear cR c5 hfz
  generalize w.drew.setCell ⟨g, i * 7 + 5, none⟩ (.int .i64 (l[i].a.rest - q)) = W1 at HR1 HR2 HC3 HG ⊢
  have cR : W1.drew.cell? ⟨R, 0, none⟩ = some (.slice (some ⟨g, 0, none⟩) l.length cap) := HR1.out.drew.box.cell 0 rfl
  have c3 := HC3.out
  have hfz : W1.drew.frozen? ⟨g, i * 7 + 3, none⟩ = false := HR1.out.drew.free _
  go_upto_region 2 with fail
  refine Go.Proofs.Ytmkcooamgojbpaa.Veil.start 19 (by kernel_rfl) (by kernel_rfl) ?_
  simp only [List.take_succ_cons, List.take_zero, List.drop_succ_cons, List.drop_zero]
  (refine Go.Proofs.Ytmkcooamgojbpaa.Veil.step (fun K hK => ?_); go_simp; refine hK _ ?_; clear hK K)
  (refine Go.Proofs.Ytmkcooamgojbpaa.Veil.step (fun K hK => ?_); go_simp; refine hK _ ?_; clear hK K)
  (refine Go.Proofs.Ytmkcooamgojbpaa.Veil.step (fun K hK => ?_); go_simp; refine hK _ ?_; clear hK K)
  (refine Go.Proofs.Ytmkcooamgojbpaa.Veil.step (fun K hK => ?_); go_simp; refine hK _ ?_; clear hK K)
  (refine Go.Proofs.Ytmkcooamgojbpaa.Veil.step (fun K hK => ?_); go_simp; refine hK _ ?_; clear hK K)
  (refine Go.Proofs.Ytmkcooamgojbpaa.Veil.step (fun K hK => ?_); go_simp; refine hK _ ?_; clear hK K)
  (refine Go.Proofs.Ytmkcooamgojbpaa.Veil.step (fun K hK => ?_); go_simp; refine hK _ ?_; clear hK K)
  (refine Go.Proofs.Ytmkcooamgojbpaa.Veil.step (fun K hK => ?_); go_simp; refine hK _ ?_; clear hK K)
  (refine Go.Proofs.Ytmkcooamgojbpaa.Veil.step (fun K hK => ?_); go_simp; refine hK _ ?_; clear hK K)
  (refine Go.Proofs.Ytmkcooamgojbpaa.Veil.step (fun K hK => ?_); go_simp; refine hK _ ?_; clear hK K)
  (refine Go.Proofs.Ytmkcooamgojbpaa.Veil.step (fun K hK => ?_); go_simp; refine hK _ ?_; clear hK K)
  (refine Go.Proofs.Ytmkcooamgojbpaa.Veil.step (fun K hK => ?_); go_simp; refine hK _ ?_; clear hK K)
  (refine Go.Proofs.Ytmkcooamgojbpaa.Veil.step (fun K hK => ?_); go_simp; refine hK _ ?_; clear hK K)
  (refine Go.Proofs.Ytmkcooamgojbpaa.Veil.step (fun K hK => ?_); go_simp; refine hK _ ?_; clear hK K)
  (refine Go.Proofs.Ytmkcooamgojbpaa.Veil.step (fun K hK => ?_); go_simp; refine hK _ ?_; clear hK K)
  (refine Go.Proofs.Ytmkcooamgojbpaa.Veil.step (fun K hK => ?_); go_simp; refine hK _ ?_; clear hK K)
  (refine Go.Proofs.Ytmkcooamgojbpaa.Veil.step (fun K hK => ?_); go_simp; refine hK _ ?_; clear hK K)
  (refine Go.Proofs.Ytmkcooamgojbpaa.Veil.step (fun K hK => ?_); go_simp; refine hK _ ?_; clear hK K)
  (refine Go.Proofs.Ytmkcooamgojbpaa.Veil.step (fun K hK => ?_); go_simp; refine hK _ ?_; clear hK K)
  refine Go.Proofs.Ytmkcooamgojbpaa.Veil.nil ?_
  change wpList _ _ _ _ _ W1.drew
  have hw2 : IntKind.i64.wrap (l[i].a.filled + q) = l[i].a.filled + q := wrap_i64 (by omega) (by omega)
  rw [hw2, show i * 7 + 2 + 1 = i * 7 + 3 from rfl]
  go_wp2_with fail
  go_end0
  exact ⟨rfl, by rw [← HS.out]; exact HR2.out, HG.out⟩
end Go.Proofs.Ytmkcooamgojbpaa.Ledger
