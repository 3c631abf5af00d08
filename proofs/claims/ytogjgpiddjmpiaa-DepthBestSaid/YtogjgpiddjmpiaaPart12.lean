/- Parts of the proof: TapeAdd, TapeDone, TapeFold. -/
import Derived.Test.YtogjgpiddjmpiaaPart6
import Derived.Test.YtogjgpiddjmpiaaPart11
import Derived.Lib.MinMax
import Derived.Deep.DrawnRows
import Derived.Deep.DeepCutAuto

/- tape's maker: add. -/
namespace Go.Proofs.Ytogjgpiddjmpiaa.Tape
set_option linter.unusedVariables false
open Go.RowKit Go.Proofs.Ytogjgpiddjmpiaa.Kit Go.Proofs.Ytogjgpiddjmpiaa.Blk Go.Proofs.Ytogjgpiddjmpiaa.Msgs
attribute [local go_sem ↓] Go.wp_at_zero Go.wp_at_succ

def setMid (cs : Array Value) (o : Nat) : List Value → Array Value
  | [] => cs
  | v :: vs => setMid (cs.setIfInBounds o v) (o + 1) vs
theorem blk_mid {B : Nat} {T : TypeId} (vs : List Value) : ∀ (o : Nat) (w : World) (cs : Array Value), Blk w B cs T → Blk (w.setCells B o vs) B (setMid cs o vs) T := by
  induction vs with
  | nil => intro o w cs h; exact h
  | cons v vs ih => intro o w cs h; exact ih (o + 1) _ _ (h.set o v)
theorem blk10 {w : World} {K : Nat} {T : TypeId} {a0 a1 a2 a3 a4 a5 a6 a7 a8 a9 : Value} (c0 c1 c2 c3 c4 c5 c6 c7 : Value) (h : Blk w K #[a0, a1, a2, a3, a4, a5, a6, a7, a8, a9] T) : Blk (w.setCells K 0 [c0, c1, c2, c3, c4, c5, c6, c7]) K #[c0, c1, c2, c3, c4, c5, c6, c7, a8, a9] T := by
  have h2 := blk_mid [c0, c1, c2, c3, c4, c5, c6, c7] 0 _ _ h
  simp only [setMid, List.setIfInBounds_toArray, List.set_cons_zero, List.set_cons_succ, Nat.zero_add, Nat.reduceAdd] at h2
  exact h2
theorem blk10w {w : World} {K : Nat} {T : TypeId} {a0 a1 a2 a3 a4 a5 a6 a7 a8 a9 : Value} (c8 c9 : Value) (h : Blk w K #[a0, a1, a2, a3, a4, a5, a6, a7, a8, a9] T) : Blk (w.setCells K 8 [c8, c9]) K #[a0, a1, a2, a3, a4, a5, a6, a7, c8, c9] T := by
  have h2 := blk_mid [c8, c9] 8 _ _ h
  simp only [setMid, List.setIfInBounds_toArray, List.set_cons_zero, List.set_cons_succ, Nat.reduceAdd] at h2
  exact h2
/-- The eight cells of a bar stored over a maker's. -/
theorem blk_bar {w : World} {K : Nat} {b c : Bar} {x : Nat} (h : Blk w K (mk b x) 146) : Blk (w.setCells K 0 c.cells.toList) K (mk c x) 146 := blk10 _ _ _ _ _ _ _ _ h
theorem blk_worth {w : World} {K : Nat} {b : Bar} {x : Nat} (y : Nat) (h : Blk w K (mk b x) 146) : Blk (w.setCells K 8 [.int .u64 ((y / 18446744073709551616 : Nat) : Int), .int .u64 ((y % 18446744073709551616 : Nat) : Int)]) K (mk b y) 146 := blk10w _ _ h
theorem there_bar {w : World} {K : Nat} {b : Bar} {x : Nat} (h : Blk w K (mk b x) 146) : w.there K 0 8 := fun j hj => by
  have := h.there j (by show j < 10; omega)
  exact this
theorem blk_high {w : World} {K : Nat} {b : Bar} {x : Nat} (h : Blk w K (mk b x) 146) (v : Int) : Blk (w.setCell ⟨K, 2, none⟩ (.int .i64 v)) K (mk { b with high := v } x) 146 := h.set 2 _
theorem blk_low {w : World} {K : Nat} {b : Bar} {x : Nat} (h : Blk w K (mk b x) 146) (v : Int) : Blk (w.setCell ⟨K, 3, none⟩ (.int .i64 v)) K (mk { b with low := v } x) 146 := h.set 3 _
theorem blk_cls {w : World} {K : Nat} {b : Bar} {x : Nat} (h : Blk w K (mk b x) 146) (v : Int) : Blk (w.setCell ⟨K, 4, none⟩ (.int .i64 v)) K (mk { b with cls := v } x) 146 := h.set 4 _
theorem blk_vol {w : World} {K : Nat} {b : Bar} {x : Nat} (h : Blk w K (mk b x) 146) (v : Int) : Blk (w.setCell ⟨K, 5, none⟩ (.int .i64 v)) K (mk { b with vol := v } x) 146 := h.set 5 _
theorem blk_trd {w : World} {K : Nat} {b : Bar} {x : Nat} (h : Blk w K (mk b x) 146) (v : Int) : Blk (w.setCell ⟨K, 6, none⟩ (.int .i64 v)) K (mk { b with trd := v } x) 146 := h.set 6 _

section
variable {P : Program} {ops : Array Oper} {o : Oper} {a : Act} {w : World} {K : Act → World → Prop} {Q : Exit → Act → World → Prop} {E : Prop}
/-- A struct within a block loaded, at a step of a region that draws its order. -/
theorem step_load_mid (hgd : o.guard = none) (ty : TypeId) (x : Operand) (ho : o.op = .load ty x) (b f : Nat) (hx : a.eval x = .pointer (some ⟨b, f, none⟩)) (cs : List Value) (h : w.rangeAt b f cs)
    (d : TypeDesc) (hu : P.underlying ty = some d) (hd : d.isRow = true) (hi : (P.info? ty).map (·.size) = some cs.length) (hk : K (a.put o.dst (.agg cs.toArray)) w) :
    if Region.wanted o (yielded ops a.tmps) = true then Oper.wp P o a w K Q else E := by
  have hw : Region.wanted o (yielded ops a.tmps) = true := by simp [Region.wanted, hgd]
  rw [if_pos hw]
  exact wp_load_mid ty x ho b f hx cs d h hu hd hi hk
theorem step_store_mid (hgd : o.guard = none) (ty : TypeId) (x y : Operand) (ho : o.op = .store ty x y) (b f : Nat) (vs : Array Value) (hx : a.eval x = .pointer (some ⟨b, f, none⟩)) (hy : a.eval y = .agg vs) (ht : w.there b f vs.size)
    (hi : (P.info? ty).map (·.size) = some vs.size) (h1 : vs.all (·.oneCell') = true) (hk : K (a.put o.dst undef) (w.setCells b f vs.toList)) :
    if Region.wanted o (yielded ops a.tmps) = true then Oper.wp P o a w K Q else E := by
  have hw : Region.wanted o (yielded ops a.tmps) = true := by simp [Region.wanted, hgd]
  rw [if_pos hw]
  exact wp_store_mid ty x y ho b f vs hx hy ht hi h1 hk
end
theorem there_worth {w : World} {K : Nat} {b : Bar} {x : Nat} (h : Blk w K (mk b x) 146) : w.there K 8 2 := fun j hj => by
  have := h.there (8 + j) (by show 8 + j < 10; omega)
  rwa [Nat.zero_add] at this
def wcells (x : Nat) : Array Value := #[.int .u64 ((x / 18446744073709551616 : Nat) : Int), .int .u64 ((x % 18446744073709551616 : Nat) : Int)]
theorem range_worth {w : World} {K : Nat} {b : Bar} {x : Nat} (h : Blk w K (mk b x) 146) : w.rangeAt K 8 (wcells x).toList := fun j v hv => by
  have hj : j < 2 := (List.getElem?_eq_some_iff.1 hv).1
  refine h.cell (8 + j) ?_
  have : j = 0 ∨ j = 1 := by omega
  rcases this with rfl | rfl <;> exact hv
/-- Two words together. -/
theorem wc_add (x : Nat) (m : Msg) (hg : Good m) : #[Value.int .u64 ((((x / 18446744073709551616 : Nat) : Int) * 18446744073709551616 + ((x % 18446744073709551616 : Nat) : Int) + (m.price * m.qty / 18446744073709551616 * 18446744073709551616 + m.price * m.qty % 18446744073709551616)) / 18446744073709551616),
    .int .u64 ((((x / 18446744073709551616 : Nat) : Int) * 18446744073709551616 + ((x % 18446744073709551616 : Nat) : Int) + (m.price * m.qty / 18446744073709551616 * 18446744073709551616 + m.price * m.qty % 18446744073709551616)) % 18446744073709551616)] = wcells (x + wo m) := by
  have h := (wo_le hg).1
  unfold wcells
  rw [← h]
  generalize wo m = y
  have e1 : (((x / 18446744073709551616 : Nat) : Int) * 18446744073709551616 + ((x % 18446744073709551616 : Nat) : Int) + ((y : Int) / 18446744073709551616 * 18446744073709551616 + (y : Int) % 18446744073709551616)) = ((x + y : Nat) : Int) := by omega
  rw [e1]
  rfl
theorem blk_wc {w : World} {K : Nat} {b : Bar} {x : Nat} (y : Nat) (h : Blk w K (mk b x) 146) : Blk (w.setCells K 8 (wcells y).toList) K (mk b y) 146 := blk_worth y h

theorem one_bar (c : Bar) : c.cells.all (·.oneCell') = true := by simp [Bar.cells, Value.oneCell']
theorem first_bds {b : Bar} (f : Int) (m : Msg) (h0 : 0 ≤ b.trd) (h1 : b.trd ≤ 1000) (h2 : 0 ≤ b.vol) (h3 : b.vol ≤ 4611686018427387904) : 0 ≤ (firstF b f m).trd ∧ (firstF b f m).trd ≤ 1000 ∧ 0 ≤ (firstF b f m).vol ∧ (firstF b f m).vol ≤ 4611686018427387904 := by
  unfold firstF
  split
  · exact ⟨Int.le_refl 0, by show (0 : Int) ≤ 1000; decide, Int.le_refl 0, by show (0 : Int) ≤ 4611686018427387904; decide⟩
  · exact ⟨h0, h1, h2, h3⟩

theorem one_wc (x : Nat) : (wcells x).all (·.oneCell') = true := by simp [wcells, Value.oneCell']
set_option maxRecDepth 20000 in
set_option maxHeartbeats 4000000 in
theorem add_any (K : Nat) (b : Bar) (x : Nat) (f : Int) (m : Msg) (w : World) (hk : Blk w K (mk b x) 146) (hg : Good m) (ht0 : 0 ≤ b.trd) (ht1 : b.trd ≤ 1000) (hv0 : 0 ≤ b.vol) (hv1 : b.vol ≤ 4611686018427387904) (hx : x ≤ 170141183460469231731687303715884105728) :
    Calls Try.prog 72 #[.pointer (some ⟨K, 0, none⟩), .int .i64 f, .agg m.cells] w fun e w' => e = .returned (.tuple #[]) ∧ Blk w' K (mk (addF b f m) (x + wo m)) 146 ∧ Chg w.heap.size K w w' := by
  have HM := Lib.hid (Blk.new w m.cells 66 w.heap.size rfl)
  have HK := Lib.hid (hk.old (.cells m.cells 66))
  have HC := Lib.hid ((Chg.refl w.heap.size K w).alloc (Nat.le_refl _) (.cells m.cells 66))
  have hKB : K < w.heap.size := hk.lt
  have HB : Hid (w.heap.size = w.heap.size) := Lib.hid rfl
  clear hk
  go_enter Try.func72, Try.ntmps72
  go_upto_region 1 with fail
  generalize w.alloc (.cells m.cells 66) = W at HM HK HC ⊢
  generalize hBB : w.heap.size = B at HM HK HC hKB ⊢
  replace HB := Lib.hid hBB
  clear hBB
  have k6 : W.cell? ⟨K, 6, none⟩ = some (.int .i64 b.trd) := HK.out.cell 6 rfl
  go_upto_if 11 with fail
  go_cut [] (fun wx => Blk wx K (mk (firstF b f m) x) 146 ∧ Blk wx B m.cells 66 ∧ Chg B K w wx)
  case first =>
    by_cases hz : b.trd = 0
    · have HF := Lib.hid (show firstF b f m = ⟨f, m.price, m.price, m.price, 0, 0, 0, 0⟩ from if_pos hz)
      have m6 : W.cell? ⟨B, 6, none⟩ = some (.int .i64 m.price) := HM.out.cell 6 rfl
      go_wp2_with (refine wpList_store_mid (by rfl) 53 _ _ (by rfl) K 0 (Bar.cells ⟨f, m.price, m.price, m.price, 0, 0, 0, 0⟩) (by rfl) (by rfl) (there_bar HK.out) (by kernel_rfl) (one_bar _) ?_)
      go_meet
      rw [HF.out]
      exact ⟨blk_bar HK.out, Blk.apartAll (B := K) _ 0 _ HM.out (by omega), Chg.setCells (B := K) _ 0 _ HC.out (Or.inl rfl)⟩
    · have HF := Lib.hid (show firstF b f m = b from if_neg hz)
      go_wp2
      go_meet
      rw [HF.out]
      exact ⟨HK.out, HM.out, HC.out⟩
  case rest =>
    clear HK HM HC k6
    obtain ⟨hk, hm, hc⟩ := hcut
    have HK := Lib.hid hk
    have HM := Lib.hid hm
    have HC := Lib.hid hc
    clear hk hm hc
    have hb0 := first_bds f m ht0 ht1 hv0 hv1
    clear ht0 ht1 hv0 hv1
    have HN := Lib.hid (show addF b f m = nextF (firstF b f m) m from rfl)
    generalize firstF b f m = b at HK hb0 HN
    generalize wc = W at HK HM HC ⊢
    obtain ⟨ht0, ht1, hv0, hv1⟩ := hb0
    go_upto_region 3 with fail
    go_cut [] (fun wx => Blk wx K (mk ⟨b.frm, b.opn, max b.high m.price, min b.low m.price, m.price, b.vol, b.trd, b.mean⟩ x) 146 ∧ Blk wx B m.cells 66 ∧ Chg B K w wx)
    case first =>
      refine wp_region_held_drew (S := (fun w' => w'.cell? ⟨B, 6, none⟩ = some (.int .i64 m.price))) (by kernel_rfl) (HM.out.cell 6 rfl) (fun hHeld => ?_)
      replace HK := Lib.hid HK.out.drew
      replace HM := Lib.hid HM.out.drew
      replace HC := Lib.hid HC.out.drew
      generalize W.drew = W1 at HK HM HC hHeld ⊢
      have m6 : W1.cell? ⟨B, 6, none⟩ = some (.int .i64 m.price) := HM.out.cell 6 rfl
      have k2 : W1.cell? ⟨K, 2, none⟩ = some (.int .i64 b.high) := HK.out.cell 2 rfl
      have k3 : W1.cell? ⟨K, 3, none⟩ = some (.int .i64 b.low) := HK.out.cell 3 rfl
      refine wpAnyH_take (i := 0) (oi := ⟨some 23, _, _, _, _, _⟩) (v := (.pointer (some ⟨K, 0, none⟩))) rfl (by kernel_rfl) (by kernel_rfl) (by kernel_rfl) (fun _ _ _ h => h) (Or.inl ⟨by rfl, fun w hSw => by (try dsimp only at hSw); go_simp⟩) (by assumption) ?_
      simp only [Act.put, List.setIfInBounds_toArray, List.set_cons_zero, List.set_cons_succ]
      refine wpAnyH_take (i := 1) (oi := ⟨some 24, _, _, _, _, _⟩) (v := (.pointer (some ⟨K, 0, none⟩))) rfl (by kernel_rfl) (by kernel_rfl) (by kernel_rfl) (fun _ _ _ h => h) (Or.inl ⟨by rfl, fun w hSw => by (try dsimp only at hSw); go_simp⟩) (by assumption) ?_
      simp only [Act.put, List.setIfInBounds_toArray, List.set_cons_zero, List.set_cons_succ]
      refine wpAnyH_take (i := 2) (oi := ⟨some 25, _, _, _, _, _⟩) (v := (.pointer (some ⟨K, 0, none⟩))) rfl (by kernel_rfl) (by kernel_rfl) (by kernel_rfl) (fun _ _ _ h => h) (Or.inl ⟨by rfl, fun w hSw => by (try dsimp only at hSw); go_simp⟩) (by assumption) ?_
      simp only [Act.put, List.setIfInBounds_toArray, List.set_cons_zero, List.set_cons_succ]
      refine wpAnyH_take (i := 3) (oi := ⟨some 26, _, _, _, _, _⟩) (v := (.pointer (some ⟨K, 0, none⟩))) rfl (by kernel_rfl) (by kernel_rfl) (by kernel_rfl) (fun _ _ _ h => h) (Or.inl ⟨by rfl, fun w hSw => by (try dsimp only at hSw); go_simp⟩) (by assumption) ?_
      simp only [Act.put, List.setIfInBounds_toArray, List.set_cons_zero, List.set_cons_succ]
      refine wpAnyH_take (i := 4) (oi := ⟨some 27, _, _, _, _, _⟩) (v := (.pointer (some ⟨K, 0, none⟩))) rfl (by kernel_rfl) (by kernel_rfl) (by kernel_rfl) (fun _ _ _ h => h) (Or.inl ⟨by rfl, fun w hSw => by (try dsimp only at hSw); go_simp⟩) (by assumption) ?_
      simp only [Act.put, List.setIfInBounds_toArray, List.set_cons_zero, List.set_cons_succ]
      refine wpAnyH_take (i := 5) (oi := ⟨some 28, _, _, _, _, _⟩) (v := (.pointer (some ⟨K, 0, none⟩))) rfl (by kernel_rfl) (by kernel_rfl) (by kernel_rfl) (fun _ _ _ h => h) (Or.inl ⟨by rfl, fun w hSw => by (try dsimp only at hSw); go_simp⟩) (by assumption) ?_
      simp only [Act.put, List.setIfInBounds_toArray, List.set_cons_zero, List.set_cons_succ]
      refine wpAnyH_take (i := 6) (oi := ⟨some 29, _, _, _, _, _⟩) (v := (.pointer (some ⟨K, 2, none⟩))) rfl (by kernel_rfl) (by kernel_rfl) (by kernel_rfl) (fun _ _ _ h => h) (Or.inl ⟨by rfl, fun w hSw => by (try dsimp only at hSw); go_simp⟩) (by assumption) ?_
      simp only [Act.put, List.setIfInBounds_toArray, List.set_cons_zero, List.set_cons_succ]
      refine wpAnyH_take (i := 8) (oi := ⟨some 31, _, _, _, _, _⟩) (v := (.pointer (some ⟨B, 6, none⟩))) rfl (by kernel_rfl) (by kernel_rfl) (by kernel_rfl) (fun _ _ _ h => h) (Or.inl ⟨by rfl, fun w hSw => by (try dsimp only at hSw); go_simp⟩) (by assumption) ?_
      simp only [Act.put, List.setIfInBounds_toArray, List.set_cons_zero, List.set_cons_succ]
      refine wpAnyH_take (i := 9) (oi := ⟨some 32, _, _, _, _, _⟩) (v := (.int .i64 m.price)) rfl (by kernel_rfl) (by kernel_rfl) (by kernel_rfl) (fun _ _ _ h => h) (Or.inl ⟨by rfl, fun w hSw => by (try dsimp only at hSw); go_simp⟩) (by assumption) ?_
      simp only [Act.put, List.setIfInBounds_toArray, List.set_cons_zero, List.set_cons_succ]
      refine wpAnyH_take (i := 11) (oi := ⟨some 34, _, _, _, _, _⟩) (v := (.pointer (some ⟨K, 0, none⟩))) rfl (by kernel_rfl) (by kernel_rfl) (by kernel_rfl) (fun _ _ _ h => h) (Or.inl ⟨by rfl, fun w hSw => by (try dsimp only at hSw); go_simp⟩) (by assumption) ?_
      simp only [Act.put, List.setIfInBounds_toArray, List.set_cons_zero, List.set_cons_succ]
      refine wpAnyH_take (i := 12) (oi := ⟨some 35, _, _, _, _, _⟩) (v := (.pointer (some ⟨K, 0, none⟩))) rfl (by kernel_rfl) (by kernel_rfl) (by kernel_rfl) (fun _ _ _ h => h) (Or.inl ⟨by rfl, fun w hSw => by (try dsimp only at hSw); go_simp⟩) (by assumption) ?_
      simp only [Act.put, List.setIfInBounds_toArray, List.set_cons_zero, List.set_cons_succ]
      refine wpAnyH_take (i := 13) (oi := ⟨some 36, _, _, _, _, _⟩) (v := (.pointer (some ⟨K, 0, none⟩))) rfl (by kernel_rfl) (by kernel_rfl) (by kernel_rfl) (fun _ _ _ h => h) (Or.inl ⟨by rfl, fun w hSw => by (try dsimp only at hSw); go_simp⟩) (by assumption) ?_
      simp only [Act.put, List.setIfInBounds_toArray, List.set_cons_zero, List.set_cons_succ]
      refine wpAnyH_take (i := 14) (oi := ⟨some 37, _, _, _, _, _⟩) (v := (.pointer (some ⟨K, 3, none⟩))) rfl (by kernel_rfl) (by kernel_rfl) (by kernel_rfl) (fun _ _ _ h => h) (Or.inl ⟨by rfl, fun w hSw => by (try dsimp only at hSw); go_simp⟩) (by assumption) ?_
      simp only [Act.put, List.setIfInBounds_toArray, List.set_cons_zero, List.set_cons_succ]
      refine wpAnyH_take (i := 16) (oi := ⟨some 39, _, _, _, _, _⟩) (v := (.pointer (some ⟨B, 6, none⟩))) rfl (by kernel_rfl) (by kernel_rfl) (by kernel_rfl) (fun _ _ _ h => h) (Or.inl ⟨by rfl, fun w hSw => by (try dsimp only at hSw); go_simp⟩) (by assumption) ?_
      simp only [Act.put, List.setIfInBounds_toArray, List.set_cons_zero, List.set_cons_succ]
      refine wpAnyH_take (i := 17) (oi := ⟨some 40, _, _, _, _, _⟩) (v := (.int .i64 m.price)) rfl (by kernel_rfl) (by kernel_rfl) (by kernel_rfl) (fun _ _ _ h => h) (Or.inl ⟨by rfl, fun w hSw => by (try dsimp only at hSw); go_simp⟩) (by assumption) ?_
      simp only [Act.put, List.setIfInBounds_toArray, List.set_cons_zero, List.set_cons_succ]
      refine wpAnyH_take (i := 19) (oi := ⟨some 42, _, _, _, _, _⟩) (v := (.pointer (some ⟨B, 6, none⟩))) rfl (by kernel_rfl) (by kernel_rfl) (by kernel_rfl) (fun _ _ _ h => h) (Or.inl ⟨by rfl, fun w hSw => by (try dsimp only at hSw); go_simp⟩) (by assumption) ?_
      simp only [Act.put, List.setIfInBounds_toArray, List.set_cons_zero, List.set_cons_succ]
      refine wpAnyH_take (i := 20) (oi := ⟨some 43, _, _, _, _, _⟩) (v := (.int .i64 m.price)) rfl (by kernel_rfl) (by kernel_rfl) (by kernel_rfl) (fun _ _ _ h => h) (Or.inl ⟨by rfl, fun w hSw => by (try dsimp only at hSw); go_simp⟩) (by assumption) ?_
      simp only [Act.put, List.setIfInBounds_toArray, List.set_cons_zero, List.set_cons_succ]
      refine wpAnyH_ready (rs := [7, 15]) (by kernel_rfl) (by simp) ?_
      refine AllReadyH.cons (o := ⟨some 30, _, _, _, _, _⟩) rfl (fun K1 hK => ?_) (AllReadyH.cons (o := ⟨some 38, _, _, _, _, _⟩) rfl (fun K1 hK => ?_) AllReadyH.nil)
      · go_simp
        refine hK.out _ _ m6 (fun hHeld => ?_)
        clear hK K1
        try simp only [Act.put, List.setIfInBounds_toArray, List.set_cons_zero, List.set_cons_succ]
        refine wpAnyH_take (i := 10) (oi := ⟨some 33, _, _, _, _, _⟩) (v := (.int .i64 (max b.high m.price))) rfl (by kernel_rfl) (by kernel_rfl) (by kernel_rfl) (fun _ _ _ h => h) (Or.inl ⟨by rfl, fun w hSw => by (try dsimp only at hSw); go_simp⟩) (by assumption) ?_
        simp only [Act.put, List.setIfInBounds_toArray, List.set_cons_zero, List.set_cons_succ]
        refine wpAnyH_ready (rs := [15]) (by kernel_rfl) (by simp) ?_
        refine AllReadyH.cons (o := ⟨some 38, _, _, _, _, _⟩) rfl (fun KK hK => ?_) AllReadyH.nil
        go_simp
        refine hK.out _ _ m6 (fun hHeld => ?_)
        clear hK; try clear KK
        try simp only [Act.put, List.setIfInBounds_toArray, List.set_cons_zero, List.set_cons_succ]
        refine wpAnyH_take (i := 18) (oi := ⟨some 41, _, _, _, _, _⟩) (v := (.int .i64 (min b.low m.price))) rfl (by kernel_rfl) (by kernel_rfl) (by kernel_rfl) (fun _ _ _ h => h) (Or.inl ⟨by rfl, fun w hSw => by (try dsimp only at hSw); go_simp⟩) (by assumption) ?_
        simp only [Act.put, List.setIfInBounds_toArray, List.set_cons_zero, List.set_cons_succ]
        refine wpAnyH_take (i := 21) (oi := ⟨some 44, _, _, _, _, _⟩) (v := (.pointer (some ⟨K, 0, none⟩))) rfl (by kernel_rfl) (by kernel_rfl) (by kernel_rfl) (fun _ _ _ h => h) (Or.inl ⟨by rfl, fun w hSw => by (try dsimp only at hSw); go_simp⟩) (by assumption) ?_
        simp only [Act.put, List.setIfInBounds_toArray, List.set_cons_zero, List.set_cons_succ]
        refine wpAnyH_take (i := 22) (oi := ⟨some 45, _, _, _, _, _⟩) (v := (.pointer (some ⟨K, 0, none⟩))) rfl (by kernel_rfl) (by kernel_rfl) (by kernel_rfl) (fun _ _ _ h => h) (Or.inl ⟨by rfl, fun w hSw => by (try dsimp only at hSw); go_simp⟩) (by assumption) ?_
        simp only [Act.put, List.setIfInBounds_toArray, List.set_cons_zero, List.set_cons_succ]
        refine wpAnyH_take (i := 23) (oi := ⟨some 46, _, _, _, _, _⟩) (v := (.pointer (some ⟨K, 2, none⟩))) rfl (by kernel_rfl) (by kernel_rfl) (by kernel_rfl) (fun _ _ _ h => h) (Or.inl ⟨by rfl, fun w hSw => by (try dsimp only at hSw); go_simp⟩) (by assumption) ?_
        simp only [Act.put, List.setIfInBounds_toArray, List.set_cons_zero, List.set_cons_succ]
        clear k2 k3 m6
        have c2 : W1.cell? ⟨K, 2, none⟩ = some (.int .i64 b.high) := HK.out.cell 2 rfl
        have f2 : W1.frozen? ⟨K, 2, none⟩ = false := HK.out.free 2
        refine wpAnyH_ready (rs := [24]) (by kernel_rfl) (by simp) ?_
        refine AllReadyH.cons (o := ⟨none, _, _, _, _, _⟩) rfl (fun KK hK => ?_) AllReadyH.nil
        go_simp
        replace HK := Lib.hid (blk_high HK.out (max b.high m.price))
        replace HM := Lib.hid (HM.out.apart ⟨K, 2, none⟩ (.int .i64 (max b.high m.price)) (by show K ≠ B; omega))
        replace HC := Lib.hid (HC.out.setCell ⟨K, 2, none⟩ (.int .i64 (max b.high m.price)) (Or.inl rfl))
        clear c2 f2 hHeld
        generalize World.setCell W1 ⟨K, 2, none⟩ (.int .i64 (max b.high m.price)) = W2 at HK HM HC ⊢
        refine hK.out _ _ (HM.out.cell 6 rfl) (fun hHeld => ?_)
        clear hK; try clear KK
        try simp only [Act.put, List.setIfInBounds_toArray, List.set_cons_zero, List.set_cons_succ]
        refine wpAnyH_take (i := 25) (oi := ⟨some 47, _, _, _, _, _⟩) (v := (.pointer (some ⟨K, 0, none⟩))) rfl (by kernel_rfl) (by kernel_rfl) (by kernel_rfl) (fun _ _ _ h => h) (Or.inl ⟨by rfl, fun w hSw => by (try dsimp only at hSw); go_simp⟩) (by assumption) ?_
        simp only [Act.put, List.setIfInBounds_toArray, List.set_cons_zero, List.set_cons_succ]
        refine wpAnyH_take (i := 26) (oi := ⟨some 48, _, _, _, _, _⟩) (v := (.pointer (some ⟨K, 0, none⟩))) rfl (by kernel_rfl) (by kernel_rfl) (by kernel_rfl) (fun _ _ _ h => h) (Or.inl ⟨by rfl, fun w hSw => by (try dsimp only at hSw); go_simp⟩) (by assumption) ?_
        simp only [Act.put, List.setIfInBounds_toArray, List.set_cons_zero, List.set_cons_succ]
        refine wpAnyH_take (i := 27) (oi := ⟨some 49, _, _, _, _, _⟩) (v := (.pointer (some ⟨K, 3, none⟩))) rfl (by kernel_rfl) (by kernel_rfl) (by kernel_rfl) (fun _ _ _ h => h) (Or.inl ⟨by rfl, fun w hSw => by (try dsimp only at hSw); go_simp⟩) (by assumption) ?_
        simp only [Act.put, List.setIfInBounds_toArray, List.set_cons_zero, List.set_cons_succ]
        have c3 : W2.cell? ⟨K, 3, none⟩ = some (.int .i64 b.low) := HK.out.cell 3 rfl
        have f3 : W2.frozen? ⟨K, 3, none⟩ = false := HK.out.free 3
        refine wpAnyH_ready (rs := [28]) (by kernel_rfl) (by simp) ?_
        refine AllReadyH.cons (o := ⟨none, _, _, _, _, _⟩) rfl (fun KK hK => ?_) AllReadyH.nil
        go_simp
        replace HK := Lib.hid (blk_low HK.out (min b.low m.price))
        replace HM := Lib.hid (HM.out.apart ⟨K, 3, none⟩ (.int .i64 (min b.low m.price)) (by show K ≠ B; omega))
        replace HC := Lib.hid (HC.out.setCell ⟨K, 3, none⟩ (.int .i64 (min b.low m.price)) (Or.inl rfl))
        clear c3 f3 hHeld
        generalize World.setCell W2 ⟨K, 3, none⟩ (.int .i64 (min b.low m.price)) = W3 at HK HM HC ⊢
        refine hK.out _ _ (HM.out.cell 6 rfl) (fun hHeld => ?_)
        clear hK; try clear KK
        try simp only [Act.put, List.setIfInBounds_toArray, List.set_cons_zero, List.set_cons_succ]
        refine wpAnyH_take (i := 29) (oi := ⟨some 50, _, _, _, _, _⟩) (v := (.pointer (some ⟨K, 0, none⟩))) rfl (by kernel_rfl) (by kernel_rfl) (by kernel_rfl) (fun _ _ _ h => h) (Or.inl ⟨by rfl, fun w hSw => by (try dsimp only at hSw); go_simp⟩) (by assumption) ?_
        simp only [Act.put, List.setIfInBounds_toArray, List.set_cons_zero, List.set_cons_succ]
        refine wpAnyH_take (i := 30) (oi := ⟨some 51, _, _, _, _, _⟩) (v := (.pointer (some ⟨K, 0, none⟩))) rfl (by kernel_rfl) (by kernel_rfl) (by kernel_rfl) (fun _ _ _ h => h) (Or.inl ⟨by rfl, fun w hSw => by (try dsimp only at hSw); go_simp⟩) (by assumption) ?_
        simp only [Act.put, List.setIfInBounds_toArray, List.set_cons_zero, List.set_cons_succ]
        refine wpAnyH_take (i := 31) (oi := ⟨some 52, _, _, _, _, _⟩) (v := (.pointer (some ⟨K, 4, none⟩))) rfl (by kernel_rfl) (by kernel_rfl) (by kernel_rfl) (fun _ _ _ h => h) (Or.inl ⟨by rfl, fun w hSw => by (try dsimp only at hSw); go_simp⟩) (by assumption) ?_
        simp only [Act.put, List.setIfInBounds_toArray, List.set_cons_zero, List.set_cons_succ]
        have c4 : W3.cell? ⟨K, 4, none⟩ = some (.int .i64 b.cls) := HK.out.cell 4 rfl
        have f4 : W3.frozen? ⟨K, 4, none⟩ = false := HK.out.free 4
        refine wpAnyH_ready (rs := [32]) (by kernel_rfl) (by simp) ?_
        refine AllReadyH.cons (o := ⟨none, _, _, _, _, _⟩) rfl (fun KK hK => ?_) AllReadyH.nil
        go_simp
        replace HK := Lib.hid (blk_cls HK.out (m.price))
        replace HM := Lib.hid (HM.out.apart ⟨K, 4, none⟩ (.int .i64 (m.price)) (by show K ≠ B; omega))
        replace HC := Lib.hid (HC.out.setCell ⟨K, 4, none⟩ (.int .i64 (m.price)) (Or.inl rfl))
        clear c4 f4 hHeld
        generalize World.setCell W3 ⟨K, 4, none⟩ (.int .i64 (m.price)) = W4 at HK HM HC ⊢
        refine hK.out _ _ (HM.out.cell 6 rfl) (fun hHeld => ?_)
        clear hK; try clear KK
        refine wpAnyH_done (by kernel_rfl) ?_ _
        go_wp2
        go_meet
        exact ⟨HK.out, HM.out, HC.out⟩
      · go_simp
        refine hK.out _ _ m6 (fun hHeld => ?_)
        clear hK K1
        try simp only [Act.put, List.setIfInBounds_toArray, List.set_cons_zero, List.set_cons_succ]
        refine wpAnyH_take (i := 18) (oi := ⟨some 41, _, _, _, _, _⟩) (v := (.int .i64 (min b.low m.price))) rfl (by kernel_rfl) (by kernel_rfl) (by kernel_rfl) (fun _ _ _ h => h) (Or.inl ⟨by rfl, fun w hSw => by (try dsimp only at hSw); go_simp⟩) (by assumption) ?_
        simp only [Act.put, List.setIfInBounds_toArray, List.set_cons_zero, List.set_cons_succ]
        refine wpAnyH_ready (rs := [7]) (by kernel_rfl) (by simp) ?_
        refine AllReadyH.cons (o := ⟨some 30, _, _, _, _, _⟩) rfl (fun KK hK => ?_) AllReadyH.nil
        go_simp
        refine hK.out _ _ m6 (fun hHeld => ?_)
        clear hK; try clear KK
        try simp only [Act.put, List.setIfInBounds_toArray, List.set_cons_zero, List.set_cons_succ]
        refine wpAnyH_take (i := 10) (oi := ⟨some 33, _, _, _, _, _⟩) (v := (.int .i64 (max b.high m.price))) rfl (by kernel_rfl) (by kernel_rfl) (by kernel_rfl) (fun _ _ _ h => h) (Or.inl ⟨by rfl, fun w hSw => by (try dsimp only at hSw); go_simp⟩) (by assumption) ?_
        simp only [Act.put, List.setIfInBounds_toArray, List.set_cons_zero, List.set_cons_succ]
        refine wpAnyH_take (i := 21) (oi := ⟨some 44, _, _, _, _, _⟩) (v := (.pointer (some ⟨K, 0, none⟩))) rfl (by kernel_rfl) (by kernel_rfl) (by kernel_rfl) (fun _ _ _ h => h) (Or.inl ⟨by rfl, fun w hSw => by (try dsimp only at hSw); go_simp⟩) (by assumption) ?_
        simp only [Act.put, List.setIfInBounds_toArray, List.set_cons_zero, List.set_cons_succ]
        refine wpAnyH_take (i := 22) (oi := ⟨some 45, _, _, _, _, _⟩) (v := (.pointer (some ⟨K, 0, none⟩))) rfl (by kernel_rfl) (by kernel_rfl) (by kernel_rfl) (fun _ _ _ h => h) (Or.inl ⟨by rfl, fun w hSw => by (try dsimp only at hSw); go_simp⟩) (by assumption) ?_
        simp only [Act.put, List.setIfInBounds_toArray, List.set_cons_zero, List.set_cons_succ]
        refine wpAnyH_take (i := 23) (oi := ⟨some 46, _, _, _, _, _⟩) (v := (.pointer (some ⟨K, 2, none⟩))) rfl (by kernel_rfl) (by kernel_rfl) (by kernel_rfl) (fun _ _ _ h => h) (Or.inl ⟨by rfl, fun w hSw => by (try dsimp only at hSw); go_simp⟩) (by assumption) ?_
        simp only [Act.put, List.setIfInBounds_toArray, List.set_cons_zero, List.set_cons_succ]
        clear k2 k3 m6
        have c2 : W1.cell? ⟨K, 2, none⟩ = some (.int .i64 b.high) := HK.out.cell 2 rfl
        have f2 : W1.frozen? ⟨K, 2, none⟩ = false := HK.out.free 2
        refine wpAnyH_ready (rs := [24]) (by kernel_rfl) (by simp) ?_
        refine AllReadyH.cons (o := ⟨none, _, _, _, _, _⟩) rfl (fun KK hK => ?_) AllReadyH.nil
        go_simp
        replace HK := Lib.hid (blk_high HK.out (max b.high m.price))
        replace HM := Lib.hid (HM.out.apart ⟨K, 2, none⟩ (.int .i64 (max b.high m.price)) (by show K ≠ B; omega))
        replace HC := Lib.hid (HC.out.setCell ⟨K, 2, none⟩ (.int .i64 (max b.high m.price)) (Or.inl rfl))
        clear c2 f2 hHeld
        generalize World.setCell W1 ⟨K, 2, none⟩ (.int .i64 (max b.high m.price)) = W2 at HK HM HC ⊢
        refine hK.out _ _ (HM.out.cell 6 rfl) (fun hHeld => ?_)
        clear hK; try clear KK
        try simp only [Act.put, List.setIfInBounds_toArray, List.set_cons_zero, List.set_cons_succ]
        refine wpAnyH_take (i := 25) (oi := ⟨some 47, _, _, _, _, _⟩) (v := (.pointer (some ⟨K, 0, none⟩))) rfl (by kernel_rfl) (by kernel_rfl) (by kernel_rfl) (fun _ _ _ h => h) (Or.inl ⟨by rfl, fun w hSw => by (try dsimp only at hSw); go_simp⟩) (by assumption) ?_
        simp only [Act.put, List.setIfInBounds_toArray, List.set_cons_zero, List.set_cons_succ]
        refine wpAnyH_take (i := 26) (oi := ⟨some 48, _, _, _, _, _⟩) (v := (.pointer (some ⟨K, 0, none⟩))) rfl (by kernel_rfl) (by kernel_rfl) (by kernel_rfl) (fun _ _ _ h => h) (Or.inl ⟨by rfl, fun w hSw => by (try dsimp only at hSw); go_simp⟩) (by assumption) ?_
        simp only [Act.put, List.setIfInBounds_toArray, List.set_cons_zero, List.set_cons_succ]
        refine wpAnyH_take (i := 27) (oi := ⟨some 49, _, _, _, _, _⟩) (v := (.pointer (some ⟨K, 3, none⟩))) rfl (by kernel_rfl) (by kernel_rfl) (by kernel_rfl) (fun _ _ _ h => h) (Or.inl ⟨by rfl, fun w hSw => by (try dsimp only at hSw); go_simp⟩) (by assumption) ?_
        simp only [Act.put, List.setIfInBounds_toArray, List.set_cons_zero, List.set_cons_succ]
        have c3 : W2.cell? ⟨K, 3, none⟩ = some (.int .i64 b.low) := HK.out.cell 3 rfl
        have f3 : W2.frozen? ⟨K, 3, none⟩ = false := HK.out.free 3
        refine wpAnyH_ready (rs := [28]) (by kernel_rfl) (by simp) ?_
        refine AllReadyH.cons (o := ⟨none, _, _, _, _, _⟩) rfl (fun KK hK => ?_) AllReadyH.nil
        go_simp
        replace HK := Lib.hid (blk_low HK.out (min b.low m.price))
        replace HM := Lib.hid (HM.out.apart ⟨K, 3, none⟩ (.int .i64 (min b.low m.price)) (by show K ≠ B; omega))
        replace HC := Lib.hid (HC.out.setCell ⟨K, 3, none⟩ (.int .i64 (min b.low m.price)) (Or.inl rfl))
        clear c3 f3 hHeld
        generalize World.setCell W2 ⟨K, 3, none⟩ (.int .i64 (min b.low m.price)) = W3 at HK HM HC ⊢
        refine hK.out _ _ (HM.out.cell 6 rfl) (fun hHeld => ?_)
        clear hK; try clear KK
        try simp only [Act.put, List.setIfInBounds_toArray, List.set_cons_zero, List.set_cons_succ]
        refine wpAnyH_take (i := 29) (oi := ⟨some 50, _, _, _, _, _⟩) (v := (.pointer (some ⟨K, 0, none⟩))) rfl (by kernel_rfl) (by kernel_rfl) (by kernel_rfl) (fun _ _ _ h => h) (Or.inl ⟨by rfl, fun w hSw => by (try dsimp only at hSw); go_simp⟩) (by assumption) ?_
        simp only [Act.put, List.setIfInBounds_toArray, List.set_cons_zero, List.set_cons_succ]
        refine wpAnyH_take (i := 30) (oi := ⟨some 51, _, _, _, _, _⟩) (v := (.pointer (some ⟨K, 0, none⟩))) rfl (by kernel_rfl) (by kernel_rfl) (by kernel_rfl) (fun _ _ _ h => h) (Or.inl ⟨by rfl, fun w hSw => by (try dsimp only at hSw); go_simp⟩) (by assumption) ?_
        simp only [Act.put, List.setIfInBounds_toArray, List.set_cons_zero, List.set_cons_succ]
        refine wpAnyH_take (i := 31) (oi := ⟨some 52, _, _, _, _, _⟩) (v := (.pointer (some ⟨K, 4, none⟩))) rfl (by kernel_rfl) (by kernel_rfl) (by kernel_rfl) (fun _ _ _ h => h) (Or.inl ⟨by rfl, fun w hSw => by (try dsimp only at hSw); go_simp⟩) (by assumption) ?_
        simp only [Act.put, List.setIfInBounds_toArray, List.set_cons_zero, List.set_cons_succ]
        have c4 : W3.cell? ⟨K, 4, none⟩ = some (.int .i64 b.cls) := HK.out.cell 4 rfl
        have f4 : W3.frozen? ⟨K, 4, none⟩ = false := HK.out.free 4
        refine wpAnyH_ready (rs := [32]) (by kernel_rfl) (by simp) ?_
        refine AllReadyH.cons (o := ⟨none, _, _, _, _, _⟩) rfl (fun KK hK => ?_) AllReadyH.nil
        go_simp
        replace HK := Lib.hid (blk_cls HK.out (m.price))
        replace HM := Lib.hid (HM.out.apart ⟨K, 4, none⟩ (.int .i64 (m.price)) (by show K ≠ B; omega))
        replace HC := Lib.hid (HC.out.setCell ⟨K, 4, none⟩ (.int .i64 (m.price)) (Or.inl rfl))
        clear c4 f4 hHeld
        generalize World.setCell W3 ⟨K, 4, none⟩ (.int .i64 (m.price)) = W4 at HK HM HC ⊢
        refine hK.out _ _ (HM.out.cell 6 rfl) (fun hHeld => ?_)
        clear hK; try clear KK
        refine wpAnyH_done (by kernel_rfl) ?_ _
        go_wp2
        go_meet
        exact ⟨HK.out, HM.out, HC.out⟩
    case rest =>
      clear HK HM HC
      obtain ⟨hk, hm, hc⟩ := hcut
      have HK := Lib.hid hk
      have HM := Lib.hid hm
      have HC := Lib.hid hc
      clear hk hm hc
      generalize wc = W at HK HM HC ⊢
      have c5 : W.cell? ⟨K, 5, none⟩ = some (.int .i64 b.vol) := HK.out.cell 5 rfl
      have f5 : W.frozen? ⟨K, 5, none⟩ = false := HK.out.free 5
      have m7 : W.cell? ⟨B, 7, none⟩ = some (.int .i64 m.qty) := HM.out.cell 7 rfl
      have q1 := hg.q1
      have q2 := hg.q2
      go_upto_region 4 with fail
      go_still_tail 8, (by kernel_rfl)
      change wpList _ _ _ _ _ W.drew
      go_upto_region 5 with fail
      change Code.wp _ _ _ _ (World.drew (World.setCell W ⟨K, 5, none⟩ (.int .i64 (b.vol + m.qty))))
      replace HK := Lib.hid (blk_vol HK.out (b.vol + m.qty)).drew
      replace HM := Lib.hid (HM.out.apart ⟨K, 5, none⟩ (.int .i64 (b.vol + m.qty)) (by show K ≠ B; omega)).drew
      replace HC := Lib.hid (HC.out.setCell ⟨K, 5, none⟩ (.int .i64 (b.vol + m.qty)) (Or.inl rfl)).drew
      clear c5 f5 m7
      generalize World.drew (World.setCell W ⟨K, 5, none⟩ (.int .i64 (b.vol + m.qty))) = W at HK HM HC ⊢
      have c6 : W.cell? ⟨K, 6, none⟩ = some (.int .i64 b.trd) := HK.out.cell 6 rfl
      have f6 : W.frozen? ⟨K, 6, none⟩ = false := HK.out.free 6
      go_upto_region 6 with fail
      change Code.wp _ _ _ _ (World.setCell W ⟨K, 6, none⟩ (.int .i64 (b.trd + 1)))
      replace HK := Lib.hid (blk_trd HK.out (b.trd + 1))
      replace HM := Lib.hid (HM.out.apart ⟨K, 6, none⟩ (.int .i64 (b.trd + 1)) (by show K ≠ B; omega))
      replace HC := Lib.hid (HC.out.setCell ⟨K, 6, none⟩ (.int .i64 (b.trd + 1)) (Or.inl rfl))
      clear c6 f6
      generalize World.setCell W ⟨K, 6, none⟩ (.int .i64 (b.trd + 1)) = W at HK HM HC ⊢
      have ea : IntKind.u64.wrap m.price = m.price := IntWalk.u64_in _ ⟨by have := hg.p1; omega, by have := hg.p2; omega⟩
      have eb : IntKind.u64.wrap m.qty = m.qty := IntWalk.u64_in _ ⟨by omega, by omega⟩
      have HWC := Lib.hid (wc_add x m hg)
      have HMUL := Lib.hid (fun w => Wide.mul_any m.price m.qty w (by have := hg.p1; omega) (by have := hg.p2; omega) (by omega) (by omega))
      have HADD := Lib.hid (fun w => WideN.add_int ((x / 18446744073709551616 : Nat) : Int) ((x % 18446744073709551616 : Nat) : Int) (m.price * m.qty / 18446744073709551616) (m.price * m.qty % 18446744073709551616) (by omega) (by omega) (by omega) (by have := (wo_le hg).1; omega) (by omega) (by omega) (by have := wo_le hg; omega) w)
      rw [HWC.out] at HADD
      clear HWC
      refine wp_region_held_drew (S := (fun w' => w'.cell? ⟨B, 6, none⟩ = some (.int .i64 m.price) ∧ w'.cell? ⟨B, 7, none⟩ = some (.int .i64 m.qty))) (by kernel_rfl) ⟨HM.out.cell 6 rfl, HM.out.cell 7 rfl⟩ (fun hHeld => ?_)
      replace HK := Lib.hid HK.out.drew
      replace HM := Lib.hid HM.out.drew
      replace HC := Lib.hid HC.out.drew
      generalize W.drew = W at HK HM HC hHeld ⊢
      refine wpAnyH_take (i := 0) (oi := ⟨some 74, _, _, _, _, _⟩) (v := (.pointer (some ⟨K, 0, none⟩))) rfl (by kernel_rfl) (by kernel_rfl) (by kernel_rfl) (fun _ _ _ h => h) (Or.inl ⟨by rfl, fun w hSw => by (try dsimp only at hSw); go_simp⟩) (by assumption) ?_
      simp only [Act.put, List.setIfInBounds_toArray, List.set_cons_zero, List.set_cons_succ]
      refine wpAnyH_take (i := 1) (oi := ⟨some 75, _, _, _, _, _⟩) (v := (.pointer (some ⟨K, 0, none⟩))) rfl (by kernel_rfl) (by kernel_rfl) (by kernel_rfl) (fun _ _ _ h => h) (Or.inl ⟨by rfl, fun w hSw => by (try dsimp only at hSw); go_simp⟩) (by assumption) ?_
      simp only [Act.put, List.setIfInBounds_toArray, List.set_cons_zero, List.set_cons_succ]
      refine wpAnyH_take (i := 2) (oi := ⟨some 76, _, _, _, _, _⟩) (v := (.pointer (some ⟨K, 0, none⟩))) rfl (by kernel_rfl) (by kernel_rfl) (by kernel_rfl) (fun _ _ _ h => h) (Or.inl ⟨by rfl, fun w hSw => by (try dsimp only at hSw); go_simp⟩) (by assumption) ?_
      simp only [Act.put, List.setIfInBounds_toArray, List.set_cons_zero, List.set_cons_succ]
      refine wpAnyH_take (i := 3) (oi := ⟨some 77, _, _, _, _, _⟩) (v := (.pointer (some ⟨K, 8, none⟩))) rfl (by kernel_rfl) (by kernel_rfl) (by kernel_rfl) (fun _ _ _ h => h) (Or.inl ⟨by rfl, fun w hSw => by (try dsimp only at hSw); go_simp⟩) (by assumption) ?_
      simp only [Act.put, List.setIfInBounds_toArray, List.set_cons_zero, List.set_cons_succ]
      refine wpAnyH_take (i := 5) (oi := ⟨some 79, _, _, _, _, _⟩) (v := (.pointer (some ⟨B, 6, none⟩))) rfl (by kernel_rfl) (by kernel_rfl) (by kernel_rfl) (fun _ _ _ h => h) (Or.inl ⟨by rfl, fun w hSw => by (try dsimp only at hSw); go_simp⟩) (by assumption) ?_
      simp only [Act.put, List.setIfInBounds_toArray, List.set_cons_zero, List.set_cons_succ]
      refine wpAnyH_take (i := 6) (oi := ⟨some 80, _, _, _, _, _⟩) (v := (.int .i64 m.price)) rfl (by kernel_rfl) (by kernel_rfl) (by kernel_rfl) (fun _ _ _ h => h) (Or.inl ⟨by rfl, fun w hSw => by (try dsimp only at hSw); go_simp⟩) (by assumption) ?_
      simp only [Act.put, List.setIfInBounds_toArray, List.set_cons_zero, List.set_cons_succ]
      refine wpAnyH_take (i := 7) (oi := ⟨some 81, _, _, _, _, _⟩) (v := (.int .u64 m.price)) rfl (by kernel_rfl) (by kernel_rfl) (by kernel_rfl) (fun _ _ _ h => h) (Or.inl ⟨by rfl, fun w hSw => by (try dsimp only at hSw); go_simp⟩) (by assumption) ?_
      simp only [Act.put, List.setIfInBounds_toArray, List.set_cons_zero, List.set_cons_succ]
      refine wpAnyH_take (i := 8) (oi := ⟨some 82, _, _, _, _, _⟩) (v := (.pointer (some ⟨B, 7, none⟩))) rfl (by kernel_rfl) (by kernel_rfl) (by kernel_rfl) (fun _ _ _ h => h) (Or.inl ⟨by rfl, fun w hSw => by (try dsimp only at hSw); go_simp⟩) (by assumption) ?_
      simp only [Act.put, List.setIfInBounds_toArray, List.set_cons_zero, List.set_cons_succ]
      refine wpAnyH_take (i := 9) (oi := ⟨some 83, _, _, _, _, _⟩) (v := (.int .i64 m.qty)) rfl (by kernel_rfl) (by kernel_rfl) (by kernel_rfl) (fun _ _ _ h => h) (Or.inl ⟨by rfl, fun w hSw => by (try dsimp only at hSw); go_simp⟩) (by assumption) ?_
      simp only [Act.put, List.setIfInBounds_toArray, List.set_cons_zero, List.set_cons_succ]
      refine wpAnyH_take (i := 10) (oi := ⟨some 84, _, _, _, _, _⟩) (v := (.int .u64 m.qty)) rfl (by kernel_rfl) (by kernel_rfl) (by kernel_rfl) (fun _ _ _ h => h) (Or.inl ⟨by rfl, fun w hSw => by (try dsimp only at hSw); go_simp⟩) (by assumption) ?_
      simp only [Act.put, List.setIfInBounds_toArray, List.set_cons_zero, List.set_cons_succ]
      refine wpAnyH_ready (rs := [4, 11]) (by kernel_rfl) (by simp) ?_
      refine AllReadyH.cons (o := ⟨some 78, _, _, _, _, _⟩) rfl (fun KK hK => ?_) (AllReadyH.cons (o := ⟨some 85, _, _, _, _, _⟩) rfl (fun KK hK => ?_) AllReadyH.nil)
      ·
        refine step_load_mid (by rfl) 144 _ (by rfl) K 8 (by rfl) (wcells x).toList (range_worth HK.out) _ Try.underlying144 rfl (by kernel_rfl) ?_
        refine hK.out _ _ ⟨HM.out.cell 6 rfl, HM.out.cell 7 rfl⟩ (fun hHeld => ?_)
        clear hK; try clear KK
        try simp only [Act.put, List.setIfInBounds_toArray, List.set_cons_zero, List.set_cons_succ]
        refine wpAnyH_ready (rs := [11]) (by kernel_rfl) (by simp) ?_
        refine AllReadyH.cons (o := ⟨some 85, _, _, _, _, _⟩) rfl (fun KK hK => ?_) AllReadyH.nil
        go_simp
        refine (HMUL.out _).mono ?_
        rintro e w2 ⟨rfl, hb⟩
        replace HC := Lib.hid (HC.out.step (hb.mono (Nat.le_trans (Nat.le_of_eq HB.out.symm) HC.out.size)))
        replace HK := Lib.hid (HK.out.below hb HK.out.lt)
        replace HM := Lib.hid (HM.out.below hb HM.out.lt)
        clear hb hHeld
        go_wp2_with fail
        refine hK.out _ _ ⟨HM.out.cell 6 rfl, HM.out.cell 7 rfl⟩ (fun hHeld => ?_)
        clear hK; try clear KK
        try simp only [Act.put, List.setIfInBounds_toArray, List.set_cons_zero, List.set_cons_succ]
        refine wpAnyH_ready (rs := [12]) (by kernel_rfl) (by simp) ?_
        refine AllReadyH.cons (o := ⟨some 86, _, _, _, _, _⟩) rfl (fun KK hK => ?_) AllReadyH.nil
        go_simp
        refine (HADD.out _).mono ?_
        rintro e w3 ⟨rfl, hb⟩
        replace HC := Lib.hid (HC.out.step (hb.mono (Nat.le_trans (Nat.le_of_eq HB.out.symm) HC.out.size)))
        replace HK := Lib.hid (HK.out.below hb HK.out.lt)
        replace HM := Lib.hid (HM.out.below hb HM.out.lt)
        clear hb hHeld
        go_wp2_with fail
        refine hK.out _ _ ⟨HM.out.cell 6 rfl, HM.out.cell 7 rfl⟩ (fun hHeld => ?_)
        clear hK; try clear KK
        try simp only [Act.put, List.setIfInBounds_toArray, List.set_cons_zero, List.set_cons_succ]
        refine wpAnyH_take (i := 13) (oi := ⟨some 73, _, _, _, _, _⟩) (v := (.tuple #[.agg (wcells (x + wo m)), .bool true])) rfl (by kernel_rfl) (by kernel_rfl) (by kernel_rfl) (fun _ _ _ h => h) (Or.inl ⟨by rfl, fun w hSw => by (try dsimp only at hSw); go_simp⟩) (by assumption) ?_
        simp only [Act.put, List.setIfInBounds_toArray, List.set_cons_zero, List.set_cons_succ]
        refine wpAnyH_take (i := 14) (oi := ⟨some 87, _, _, _, _, _⟩) (v := (.agg (wcells (x + wo m)))) rfl (by kernel_rfl) (by kernel_rfl) (by kernel_rfl) (fun _ _ _ h => h) (Or.inl ⟨by rfl, fun w hSw => by (try dsimp only at hSw); go_simp⟩) (by assumption) ?_
        simp only [Act.put, List.setIfInBounds_toArray, List.set_cons_zero, List.set_cons_succ]
        refine wpAnyH_take (i := 15) (oi := ⟨some 88, _, _, _, _, _⟩) (v := (.bool true)) rfl (by kernel_rfl) (by kernel_rfl) (by kernel_rfl) (fun _ _ _ h => h) (Or.inl ⟨by rfl, fun w hSw => by (try dsimp only at hSw); go_simp⟩) (by assumption) ?_
        simp only [Act.put, List.setIfInBounds_toArray, List.set_cons_zero, List.set_cons_succ]
        refine wpAnyH_take (i := 16) (oi := ⟨some 89, _, _, _, _, _⟩) (v := (.pointer (some ⟨K, 0, none⟩))) rfl (by kernel_rfl) (by kernel_rfl) (by kernel_rfl) (fun _ _ _ h => h) (Or.inl ⟨by rfl, fun w hSw => by (try dsimp only at hSw); go_simp⟩) (by assumption) ?_
        simp only [Act.put, List.setIfInBounds_toArray, List.set_cons_zero, List.set_cons_succ]
        refine wpAnyH_take (i := 17) (oi := ⟨some 90, _, _, _, _, _⟩) (v := (.pointer (some ⟨K, 8, none⟩))) rfl (by kernel_rfl) (by kernel_rfl) (by kernel_rfl) (fun _ _ _ h => h) (Or.inl ⟨by rfl, fun w hSw => by (try dsimp only at hSw); go_simp⟩) (by assumption) ?_
        simp only [Act.put, List.setIfInBounds_toArray, List.set_cons_zero, List.set_cons_succ]
        refine wpAnyH_ready (rs := [18]) (by kernel_rfl) (by simp) ?_
        refine AllReadyH.cons (o := ⟨none, _, _, _, _, _⟩) rfl (fun KK hK => ?_) AllReadyH.nil
        refine step_store_mid (by rfl) 144 _ _ (by rfl) K 8 (wcells (x + wo m)) (by rfl) (by rfl) (there_worth HK.out) (by kernel_rfl) (one_wc _) ?_
        replace HK := Lib.hid (blk_wc (x + wo m) HK.out)
        replace HM := Lib.hid (Blk.apartAll (B := K) (wcells (x + wo m)).toList 8 _ HM.out (by omega))
        replace HC := Lib.hid (Chg.setCells (B := K) (wcells (x + wo m)).toList 8 _ HC.out (Or.inl rfl))
        refine hK.out _ _ ⟨HM.out.cell 6 rfl, HM.out.cell 7 rfl⟩ (fun hHeld => ?_)
        clear hK; try clear KK
        refine wpAnyH_done (by kernel_rfl) ?_ _
        go_wp2
        go_end0
        exact ⟨rfl, by rw [HN.out]; exact HK.out, by rw [HB.out]; exact HC.out⟩
      ·
        go_simp
        refine (HMUL.out _).mono ?_
        rintro e w2 ⟨rfl, hb⟩
        replace HC := Lib.hid (HC.out.step (hb.mono (Nat.le_trans (Nat.le_of_eq HB.out.symm) HC.out.size)))
        replace HK := Lib.hid (HK.out.below hb HK.out.lt)
        replace HM := Lib.hid (HM.out.below hb HM.out.lt)
        clear hb hHeld
        go_wp2_with fail
        refine hK.out _ _ ⟨HM.out.cell 6 rfl, HM.out.cell 7 rfl⟩ (fun hHeld => ?_)
        clear hK; try clear KK
        try simp only [Act.put, List.setIfInBounds_toArray, List.set_cons_zero, List.set_cons_succ]
        refine wpAnyH_ready (rs := [4]) (by kernel_rfl) (by simp) ?_
        refine AllReadyH.cons (o := ⟨some 78, _, _, _, _, _⟩) rfl (fun KK hK => ?_) AllReadyH.nil
        refine step_load_mid (by rfl) 144 _ (by rfl) K 8 (by rfl) (wcells x).toList (range_worth HK.out) _ Try.underlying144 rfl (by kernel_rfl) ?_
        refine hK.out _ _ ⟨HM.out.cell 6 rfl, HM.out.cell 7 rfl⟩ (fun hHeld => ?_)
        clear hK; try clear KK
        try simp only [Act.put, List.setIfInBounds_toArray, List.set_cons_zero, List.set_cons_succ]
        refine wpAnyH_ready (rs := [12]) (by kernel_rfl) (by simp) ?_
        refine AllReadyH.cons (o := ⟨some 86, _, _, _, _, _⟩) rfl (fun KK hK => ?_) AllReadyH.nil
        go_simp
        refine (HADD.out _).mono ?_
        rintro e w3 ⟨rfl, hb⟩
        replace HC := Lib.hid (HC.out.step (hb.mono (Nat.le_trans (Nat.le_of_eq HB.out.symm) HC.out.size)))
        replace HK := Lib.hid (HK.out.below hb HK.out.lt)
        replace HM := Lib.hid (HM.out.below hb HM.out.lt)
        clear hb hHeld
        go_wp2_with fail
        refine hK.out _ _ ⟨HM.out.cell 6 rfl, HM.out.cell 7 rfl⟩ (fun hHeld => ?_)
        clear hK; try clear KK
        try simp only [Act.put, List.setIfInBounds_toArray, List.set_cons_zero, List.set_cons_succ]
        refine wpAnyH_take (i := 13) (oi := ⟨some 73, _, _, _, _, _⟩) (v := (.tuple #[.agg (wcells (x + wo m)), .bool true])) rfl (by kernel_rfl) (by kernel_rfl) (by kernel_rfl) (fun _ _ _ h => h) (Or.inl ⟨by rfl, fun w hSw => by (try dsimp only at hSw); go_simp⟩) (by assumption) ?_
        simp only [Act.put, List.setIfInBounds_toArray, List.set_cons_zero, List.set_cons_succ]
        refine wpAnyH_take (i := 14) (oi := ⟨some 87, _, _, _, _, _⟩) (v := (.agg (wcells (x + wo m)))) rfl (by kernel_rfl) (by kernel_rfl) (by kernel_rfl) (fun _ _ _ h => h) (Or.inl ⟨by rfl, fun w hSw => by (try dsimp only at hSw); go_simp⟩) (by assumption) ?_
        simp only [Act.put, List.setIfInBounds_toArray, List.set_cons_zero, List.set_cons_succ]
        refine wpAnyH_take (i := 15) (oi := ⟨some 88, _, _, _, _, _⟩) (v := (.bool true)) rfl (by kernel_rfl) (by kernel_rfl) (by kernel_rfl) (fun _ _ _ h => h) (Or.inl ⟨by rfl, fun w hSw => by (try dsimp only at hSw); go_simp⟩) (by assumption) ?_
        simp only [Act.put, List.setIfInBounds_toArray, List.set_cons_zero, List.set_cons_succ]
        refine wpAnyH_take (i := 16) (oi := ⟨some 89, _, _, _, _, _⟩) (v := (.pointer (some ⟨K, 0, none⟩))) rfl (by kernel_rfl) (by kernel_rfl) (by kernel_rfl) (fun _ _ _ h => h) (Or.inl ⟨by rfl, fun w hSw => by (try dsimp only at hSw); go_simp⟩) (by assumption) ?_
        simp only [Act.put, List.setIfInBounds_toArray, List.set_cons_zero, List.set_cons_succ]
        refine wpAnyH_take (i := 17) (oi := ⟨some 90, _, _, _, _, _⟩) (v := (.pointer (some ⟨K, 8, none⟩))) rfl (by kernel_rfl) (by kernel_rfl) (by kernel_rfl) (fun _ _ _ h => h) (Or.inl ⟨by rfl, fun w hSw => by (try dsimp only at hSw); go_simp⟩) (by assumption) ?_
        simp only [Act.put, List.setIfInBounds_toArray, List.set_cons_zero, List.set_cons_succ]
        refine wpAnyH_ready (rs := [18]) (by kernel_rfl) (by simp) ?_
        refine AllReadyH.cons (o := ⟨none, _, _, _, _, _⟩) rfl (fun KK hK => ?_) AllReadyH.nil
        refine step_store_mid (by rfl) 144 _ _ (by rfl) K 8 (wcells (x + wo m)) (by rfl) (by rfl) (there_worth HK.out) (by kernel_rfl) (one_wc _) ?_
        replace HK := Lib.hid (blk_wc (x + wo m) HK.out)
        replace HM := Lib.hid (Blk.apartAll (B := K) (wcells (x + wo m)).toList 8 _ HM.out (by omega))
        replace HC := Lib.hid (Chg.setCells (B := K) (wcells (x + wo m)).toList 8 _ HC.out (Or.inl rfl))
        refine hK.out _ _ ⟨HM.out.cell 6 rfl, HM.out.cell 7 rfl⟩ (fun hHeld => ?_)
        clear hK; try clear KK
        refine wpAnyH_done (by kernel_rfl) ?_ _
        go_wp2
        go_end0
        exact ⟨rfl, by rw [HN.out]; exact HK.out, by rw [HB.out]; exact HC.out⟩
end Go.Proofs.Ytogjgpiddjmpiaa.Tape

/- tape's maker: done; fix.Qty. -/
namespace Go.Proofs.Ytogjgpiddjmpiaa.Tape
set_option linter.unusedVariables false
open Go.RowKit Go.Proofs.Ytogjgpiddjmpiaa.Kit Go.Proofs.Ytogjgpiddjmpiaa.Blk Go.Proofs.Ytogjgpiddjmpiaa.Msgs
attribute [local go_sem ↓] Go.wp_at_zero Go.wp_at_succ

def withMean (b : Bar) (n : Int) : Bar := ⟨b.frm, b.opn, b.high, b.low, b.cls, b.vol, b.trd, n⟩
theorem blk_mean {w : World} {K : Nat} {b : Bar} {x : Nat} (h : Blk w K (mk b x) 146) (v : Int) : Blk (w.setCell ⟨K, 7, none⟩ (.int .i64 v)) K (mk (withMean b v) x) 146 := h.set 7 _
theorem range_bar {w : World} {K : Nat} {b : Bar} {x : Nat} (h : Blk w K (mk b x) 146) : w.rangeAt K 0 b.cells.toList := fun j v hv => by
  have hj : j < 8 := (List.getElem?_eq_some_iff.1 hv).1
  rw [Nat.zero_add]
  refine h.cell j ?_
  have : j = 0 ∨ j = 1 ∨ j = 2 ∨ j = 3 ∨ j = 4 ∨ j = 5 ∨ j = 6 ∨ j = 7 := by omega
  rcases this with rfl | rfl | rfl | rfl | rfl | rfl | rfl | rfl <;> exact hv
theorem mean_wc (x v : Nat) (hx : x < 340282366920938463463374607431768211456) (hv0 : 0 < v) (hv : v < 9223372036854775808) (hq : x / v < 9223372036854775808) (w : World) :
    Calls Try.prog 78 #[.agg (wcells x), .int .i64 v] w fun e w' => e = .returned (.int .i64 ((x / v : Nat) : Int)) ∧ Below w.heap.size w w' := by
  have h := WideN.mean_any (x / 18446744073709551616) (x % 18446744073709551616) v (by omega) (by omega) hv0 hv (by rw [Nat.div_add_mod']; exact hq) w
  rw [Nat.div_add_mod'] at h
  exact h

set_option maxRecDepth 20000 in
set_option maxHeartbeats 4000000 in
theorem done_any (K : Nat) (b : Bar) (x v : Nat) (w : World) (hk : Blk w K (mk b x) 146) (hv : b.vol = (v : Int)) (hv0 : 0 < v) (hv1 : v < 9223372036854775808) (hx : x < 340282366920938463463374607431768211456) (hq : x / v < 9223372036854775808) :
    Calls Try.prog 73 #[.pointer (some ⟨K, 0, none⟩)] w fun e w' => e = .returned (.agg (withMean b ((x / v : Nat) : Int)).cells) ∧ Blk w' K (mk (withMean b ((x / v : Nat) : Int)) x) 146 ∧ Chg w.heap.size K w w' := by
  have HR := Lib.hid (Blk.new w Bar.zero.cells 53 w.heap.size rfl)
  have HK := Lib.hid (hk.old (.cells Bar.zero.cells 53))
  have HC := Lib.hid ((Chg.refl w.heap.size K w).alloc (Nat.le_refl _) (.cells Bar.zero.cells 53))
  have hKB : K < w.heap.size := hk.lt
  have HV := Lib.hid hv
  have HME := Lib.hid (fun w => mean_wc x v hx hv0 hv1 hq w)
  clear hk hv
  generalize x / v = n at *
  go_enter Try.func73, Try.ntmps73
  go_upto_region 1 with fail
  change Code.wp _ _ _ _ (w.alloc (.cells Bar.zero.cells 53))
  generalize w.alloc (.cells Bar.zero.cells 53) = W at HR HK HC ⊢
  generalize hBB : w.heap.size = B at HR HK HC hKB ⊢
  have HB := Lib.hid hBB
  clear hBB
  have k5 : W.drew.cell? ⟨K, 5, none⟩ = some (.int .i64 v) := by rw [← HV.out]; exact HK.out.cell 5 rfl
  refine wp_region_held_drew (S := (fun w' => w'.cell? ⟨K, 5, none⟩ = some (.int .i64 v) ∧ w'.rangeAt K 8 (wcells x).toList)) (by kernel_rfl) ⟨k5, range_worth HK.out.drew⟩ (fun hHeld => ?_)
  replace HK := Lib.hid HK.out.drew
  replace HR := Lib.hid HR.out.drew
  replace HC := Lib.hid HC.out.drew
  generalize W.drew = W at HK HR HC hHeld k5 ⊢
  refine wpAnyH_take (i := 0) (oi := ⟨some 3, _, _, _, _, _⟩) (v := (.pointer (some ⟨K, 0, none⟩))) rfl (by kernel_rfl) (by kernel_rfl) (by kernel_rfl) (fun _ _ _ h => h) (Or.inl ⟨by rfl, fun w hSw => by (try dsimp only at hSw); go_simp⟩) (by assumption) ?_
  simp only [Act.put, List.setIfInBounds_toArray, List.set_cons_zero, List.set_cons_succ]
  refine wpAnyH_take (i := 1) (oi := ⟨some 4, _, _, _, _, _⟩) (v := (.pointer (some ⟨K, 0, none⟩))) rfl (by kernel_rfl) (by kernel_rfl) (by kernel_rfl) (fun _ _ _ h => h) (Or.inl ⟨by rfl, fun w hSw => by (try dsimp only at hSw); go_simp⟩) (by assumption) ?_
  simp only [Act.put, List.setIfInBounds_toArray, List.set_cons_zero, List.set_cons_succ]
  refine wpAnyH_take (i := 2) (oi := ⟨some 5, _, _, _, _, _⟩) (v := (.pointer (some ⟨K, 0, none⟩))) rfl (by kernel_rfl) (by kernel_rfl) (by kernel_rfl) (fun _ _ _ h => h) (Or.inl ⟨by rfl, fun w hSw => by (try dsimp only at hSw); go_simp⟩) (by assumption) ?_
  simp only [Act.put, List.setIfInBounds_toArray, List.set_cons_zero, List.set_cons_succ]
  refine wpAnyH_take (i := 3) (oi := ⟨some 6, _, _, _, _, _⟩) (v := (.pointer (some ⟨K, 8, none⟩))) rfl (by kernel_rfl) (by kernel_rfl) (by kernel_rfl) (fun _ _ _ h => h) (Or.inl ⟨by rfl, fun w hSw => by (try dsimp only at hSw); go_simp⟩) (by assumption) ?_
  simp only [Act.put, List.setIfInBounds_toArray, List.set_cons_zero, List.set_cons_succ]
  refine wpAnyH_take (i := 4) (oi := ⟨some 7, .load 144 (.tmp 6), _, _, _, _⟩) (v := _) rfl (by kernel_rfl) (by kernel_rfl) (by kernel_rfl) (fun _ _ _ h => h) (yieldsIf_load_mid (by rfl) _ _ rfl _ _ rfl _ _ (fun w h => h.2) Try.underlying144 rfl (by kernel_rfl)) (by assumption) ?_
  simp only [Act.put, List.setIfInBounds_toArray, List.set_cons_zero, List.set_cons_succ]
  refine wpAnyH_take (i := 5) (oi := ⟨some 8, _, _, _, _, _⟩) (v := (.pointer (some ⟨K, 0, none⟩))) rfl (by kernel_rfl) (by kernel_rfl) (by kernel_rfl) (fun _ _ _ h => h) (Or.inl ⟨by rfl, fun w hSw => by (try dsimp only at hSw); go_simp⟩) (by assumption) ?_
  simp only [Act.put, List.setIfInBounds_toArray, List.set_cons_zero, List.set_cons_succ]
  refine wpAnyH_take (i := 6) (oi := ⟨some 9, _, _, _, _, _⟩) (v := (.pointer (some ⟨K, 0, none⟩))) rfl (by kernel_rfl) (by kernel_rfl) (by kernel_rfl) (fun _ _ _ h => h) (Or.inl ⟨by rfl, fun w hSw => by (try dsimp only at hSw); go_simp⟩) (by assumption) ?_
  simp only [Act.put, List.setIfInBounds_toArray, List.set_cons_zero, List.set_cons_succ]
  refine wpAnyH_take (i := 7) (oi := ⟨some 10, _, _, _, _, _⟩) (v := (.pointer (some ⟨K, 0, none⟩))) rfl (by kernel_rfl) (by kernel_rfl) (by kernel_rfl) (fun _ _ _ h => h) (Or.inl ⟨by rfl, fun w hSw => by (try dsimp only at hSw); go_simp⟩) (by assumption) ?_
  simp only [Act.put, List.setIfInBounds_toArray, List.set_cons_zero, List.set_cons_succ]
  refine wpAnyH_take (i := 8) (oi := ⟨some 11, _, _, _, _, _⟩) (v := (.pointer (some ⟨K, 5, none⟩))) rfl (by kernel_rfl) (by kernel_rfl) (by kernel_rfl) (fun _ _ _ h => h) (Or.inl ⟨by rfl, fun w hSw => by (try dsimp only at hSw); go_simp⟩) (by assumption) ?_
  simp only [Act.put, List.setIfInBounds_toArray, List.set_cons_zero, List.set_cons_succ]
  refine wpAnyH_take (i := 9) (oi := ⟨some 12, _, _, _, _, _⟩) (v := (.int .i64 v)) rfl (by kernel_rfl) (by kernel_rfl) (by kernel_rfl) (fun _ _ _ h => h) (Or.inl ⟨by rfl, fun w hSw => by (try dsimp only at hSw); go_simp⟩) (by assumption) ?_
  simp only [Act.put, List.setIfInBounds_toArray, List.set_cons_zero, List.set_cons_succ]
  refine wpAnyH_ready (rs := [10]) (by kernel_rfl) (by simp) ?_
  refine AllReadyH.cons (o := ⟨some 13, _, _, _, _, _⟩) rfl (fun KK hK => ?_) AllReadyH.nil
  go_simp
  refine (HME.out _).mono ?_
  rintro e w2 ⟨rfl, hb⟩
  replace HC := Lib.hid (HC.out.step (hb.mono (Nat.le_trans (Nat.le_of_eq HB.out.symm) HC.out.size)))
  replace HK := Lib.hid (HK.out.below hb HK.out.lt)
  replace HR := Lib.hid (HR.out.below hb HR.out.lt)
  clear hb hHeld k5
  have k5 : w2.cell? ⟨K, 5, none⟩ = some (.int .i64 v) := by rw [← HV.out]; exact HK.out.cell 5 rfl
  go_wp2_with fail
  refine hK.out _ _ ⟨k5, range_worth HK.out⟩ (fun hHeld => ?_)
  clear hK; try clear KK
  try simp only [Act.put, List.setIfInBounds_toArray, List.set_cons_zero, List.set_cons_succ]
  refine wpAnyH_take (i := 11) (oi := ⟨some 14, _, _, _, _, _⟩) (v := (.pointer (some ⟨K, 0, none⟩))) rfl (by kernel_rfl) (by kernel_rfl) (by kernel_rfl) (fun _ _ _ h => h) (Or.inl ⟨by rfl, fun w hSw => by (try dsimp only at hSw); go_simp⟩) (by assumption) ?_
  simp only [Act.put, List.setIfInBounds_toArray, List.set_cons_zero, List.set_cons_succ]
  refine wpAnyH_take (i := 12) (oi := ⟨some 15, _, _, _, _, _⟩) (v := (.pointer (some ⟨K, 0, none⟩))) rfl (by kernel_rfl) (by kernel_rfl) (by kernel_rfl) (fun _ _ _ h => h) (Or.inl ⟨by rfl, fun w hSw => by (try dsimp only at hSw); go_simp⟩) (by assumption) ?_
  simp only [Act.put, List.setIfInBounds_toArray, List.set_cons_zero, List.set_cons_succ]
  refine wpAnyH_take (i := 13) (oi := ⟨some 16, _, _, _, _, _⟩) (v := (.pointer (some ⟨K, 7, none⟩))) rfl (by kernel_rfl) (by kernel_rfl) (by kernel_rfl) (fun _ _ _ h => h) (Or.inl ⟨by rfl, fun w hSw => by (try dsimp only at hSw); go_simp⟩) (by assumption) ?_
  simp only [Act.put, List.setIfInBounds_toArray, List.set_cons_zero, List.set_cons_succ]
  have c7 : w2.cell? ⟨K, 7, none⟩ = some (.int .i64 b.mean) := HK.out.cell 7 rfl
  have f7 : w2.frozen? ⟨K, 7, none⟩ = false := HK.out.free 7
  refine wpAnyH_ready (rs := [14]) (by kernel_rfl) (by simp) ?_
  refine AllReadyH.cons (o := ⟨none, _, _, _, _, _⟩) rfl (fun KK hK => ?_) AllReadyH.nil
  go_simp
  replace HK := Lib.hid (blk_mean HK.out (n : Int))
  replace HR := Lib.hid (HR.out.apart ⟨K, 7, none⟩ (.int .i64 (n : Int)) (by show K ≠ B; omega))
  replace HC := Lib.hid (HC.out.setCell ⟨K, 7, none⟩ (.int .i64 (n : Int)) (Or.inl rfl))
  clear c7 f7 hHeld k5
  generalize World.setCell w2 ⟨K, 7, none⟩ (.int .i64 (n : Int)) = W3 at HK HR HC ⊢
  refine hK.out _ _ ⟨by rw [← HV.out]; exact HK.out.cell 5 rfl, range_worth HK.out⟩ (fun hHeld => ?_)
  clear hK; try clear KK
  refine wpAnyH_done (by kernel_rfl) ?_ _
  go_wp2_with (first
    | (refine wpList_load_mid (by rfl) 53 _ (by rfl) _ _ (by rfl) _ _ (range_bar HK.out) Try.underlying53 rfl (by kernel_rfl) ?_)
    | (refine store_blk (by rfl) 53 _ _ (by rfl) B (by rfl) Bar.zero.cells (withMean b (n : Int)).cells 53 HR.out (by rfl) (by rfl) (by kernel_rfl) (one_bar _) ?_))
  replace HK := Lib.hid (Blk.apartAll (B := B) (withMean b (n : Int)).cells.toList 0 _ HK.out (by omega))
  replace HR := Lib.hid (HR.out.setCells (withMean b (n : Int)).cells rfl)
  replace HC := Lib.hid (Chg.setCells (B := B) (withMean b (n : Int)).cells.toList 0 _ HC.out (Or.inr (Nat.le_refl _)))
  refine bodyPost_ret (results_cell_row rfl _ _ _ _ _ (0, 0) _ rfl HR.out Try.underlying53 rfl (by kernel_rfl)) rfl ?_
  exact ⟨rfl, HK.out, by rw [HB.out]; exact HC.out⟩

theorem in_any (A : Nat) (q lo hi : Int) (w : World) (hA : w.cell? ⟨A, 0, none⟩ = some (.int .i64 q)) :
    Calls Try.prog 149 #[.int .i64 lo, .int .i64 hi, .pointer (some ⟨A, 0, none⟩)] w fun e w' => e = .returned (.bool (decide (lo ≤ q) && decide (q ≤ hi))) ∧ w = w' := by
  by_cases h : lo ≤ q
  · go_enter Try.func149, Try.ntmps149
    go_wp2
    go_ret
    exact ⟨by simp [h], rfl⟩
  · have h2 : q < lo := by omega
    go_enter Try.func149, Try.ntmps149
    go_wp2
    go_ret
    exact ⟨ret_bool (by simp; omega), rfl⟩
def qtyF (q : Int) : Int := if 1 ≤ q ∧ q ≤ 4294967296 then 0 else 9
theorem qty_any (q : Int) (w : World) : Calls Try.prog 114 #[.int .i64 q] w fun e w' => e = .returned (.int .i64 (qtyF q)) ∧ Below w.heap.size w w' := by
  by_cases h : 1 ≤ q ∧ q ≤ 4294967296
  · have b1 : (decide (1 ≤ q) && decide (q ≤ 4294967296)) = true := by simp [h]
    go_enter Try.func114, Try.ntmps114
    go_wp2_with (go_at_call 149; refine (in_any w.heap.size q _ _ _ (cell_new _ _ _ _ _ _ rfl rfl)).mono ?_; rintro e w' ⟨rfl, rfl⟩; rw [b1])
    refine bodyPost_ret (v := .int .i64 0) (by simp [results, Try.results114, go_sem]) rfl ?_
    exact ⟨ret_int (if_pos h).symm, (Below.refl _ _).alloc (Nat.le_refl _) _⟩
  · have b1 : (decide (1 ≤ q) && decide (q ≤ 4294967296)) = false := by
      rw [Bool.eq_false_iff]; simpa using h
    go_enter Try.func114, Try.ntmps114
    go_wp2_with (go_at_call 149; refine (in_any w.heap.size q _ _ _ (cell_new _ _ _ _ _ _ rfl rfl)).mono ?_; rintro e w' ⟨rfl, rfl⟩; rw [b1])
    refine bodyPost_ret (v := .int .i64 9) (by simp [results, Try.results114, go_sem]) rfl ?_
    exact ⟨ret_int (if_neg h).symm, (Below.refl _ _).alloc (Nat.le_refl _) _⟩
end Go.Proofs.Ytogjgpiddjmpiaa.Tape

/- The bars of trades, in plain numbers: as the program makes them, one trade behind the other. -/
namespace Go.Proofs.Ytogjgpiddjmpiaa.Tape
open Go.RowKit Go.Proofs.Ytogjgpiddjmpiaa.Kit Go.Proofs.Ytogjgpiddjmpiaa.Blk Go.Proofs.Ytogjgpiddjmpiaa.Msgs

structure St where
  out : List Bar
  b : Bar
  x : Nat
def doneF (b : Bar) (x : Nat) : Bar := withMean b ((x / b.vol.toNat : Nat) : Int)
def stepB (wd : Int) (s : St) (m : Msg) : St :=
  if s.b.trd = 0 ∨ s.b.frm = m.tick / wd * wd then ⟨s.out, addF s.b (m.tick / wd * wd) m, s.x + wo m⟩
  else ⟨s.out ++ [doneF s.b s.x], addF Bar.zero (m.tick / wd * wd) m, wo m⟩
def foldB (wd : Int) (l : List Msg) : St := l.foldl (stepB wd) ⟨[], Bar.zero, 0⟩
theorem foldB_snoc (wd : Int) (l : List Msg) (m : Msg) : foldB wd (l ++ [m]) = stepB wd (foldB wd l) m := by
  unfold foldB; rw [List.foldl_append]; rfl
def barsF (wd : Int) (l : List Msg) : List Bar := if 0 < (foldB wd l).b.trd then (foldB wd l).out ++ [doneF (foldB wd l).b (foldB wd l).x] else (foldB wd l).out

/-- What is true of a maker behind n trades. -/
structure Sound (b : Bar) (x n : Nat) : Prop where
  t0 : 0 ≤ b.trd
  t1 : b.trd ≤ n
  v0 : 0 ≤ b.vol
  v1 : b.vol ≤ n * 4294967296
  xv : (x : Int) ≤ 1099511627776 * b.vol
  pos : b.trd ≠ 0 → 0 < b.vol
  zero : b.trd = 0 → x = 0
theorem sound_zero (n : Nat) : Sound Bar.zero 0 n := ⟨by show (0 : Int) ≤ 0; omega, by show (0 : Int) ≤ n; omega, by show (0 : Int) ≤ 0; omega, by show (0 : Int) ≤ n * 4294967296; omega, by show ((0 : Nat) : Int) ≤ 1099511627776 * 0; omega, fun h => absurd rfl h, fun _ => rfl⟩
theorem sound_add {b : Bar} {x n : Nat} (h : Sound b x n) (f : Int) {m : Msg} (hg : Good m) : Sound (addF b f m) (x + wo m) (n + 1) := by
  have hw := (wo_le hg).1
  have hq := hg.q1
  have hq2 := hg.q2
  have hpq : m.price * m.qty ≤ 1099511627776 * m.qty := Int.mul_le_mul_of_nonneg_right hg.p2 (by omega)
  unfold addF firstF
  by_cases hz : b.trd = 0
  · rw [if_pos hz]
    have hx := h.zero hz
    subst hx
    refine ⟨?_, ?_, ?_, ?_, ?_, ?_, ?_⟩ <;> dsimp only [nextF] <;> omega
  · rw [if_neg hz]
    have := h.t0; have := h.t1; have := h.v0; have := h.v1; have := h.xv; have := h.pos hz
    refine ⟨?_, ?_, ?_, ?_, ?_, ?_, ?_⟩ <;> dsimp only [nextF] <;> omega
theorem sound_step (wd : Int) {s : St} {n : Nat} (h : Sound s.b s.x n) {m : Msg} (hg : Good m) : Sound (stepB wd s m).b (stepB wd s m).x (n + 1) := by
  unfold stepB
  split
  · exact sound_add h _ hg
  · have h2 := sound_add (sound_zero n) (m.tick / wd * wd) hg
    rw [Nat.zero_add] at h2
    exact h2
theorem rev_ind {α : Type} {p : List α → Prop} (h0 : p []) (hs : ∀ l x, p l → p (l ++ [x])) (l : List α) : p l := by
  rw [← List.reverse_reverse l]
  induction l.reverse with
  | nil => exact h0
  | cons x t ih => rw [List.reverse_cons]; exact hs _ _ ih
theorem sound_fold (wd : Int) (l : List Msg) (hl : ∀ m ∈ l, Good m) : Sound (foldB wd l).b (foldB wd l).x l.length ∧ (foldB wd l).out.length ≤ l.length := by
  revert hl
  refine rev_ind (p := fun l => (∀ m ∈ l, Good m) → Sound (foldB wd l).b (foldB wd l).x l.length ∧ (foldB wd l).out.length ≤ l.length) ?_ ?_ l
  · exact fun _ => ⟨sound_zero 0, Nat.le_refl _⟩
  · intro l m ih hl
    obtain ⟨h1, h2⟩ := ih (fun x hx => hl x (List.mem_append_left _ hx))
    rw [foldB_snoc, List.length_append]
    refine ⟨sound_step wd h1 (hl m (List.mem_append_right _ List.mem_cons_self)), ?_⟩
    unfold stepB
    split
    · simp; omega
    · simp; omega
theorem sound_mean {b : Bar} {x n : Nat} (h : Sound b x n) (hz : b.trd ≠ 0) (hn : n ≤ 1000) : b.vol = (b.vol.toNat : Int) ∧ 0 < b.vol.toNat ∧ b.vol.toNat < 9223372036854775808 ∧ x < 340282366920938463463374607431768211456 ∧ x / b.vol.toNat < 9223372036854775808 := by
  have h1 := h.pos hz
  have h2 := h.v1
  have h3 := h.xv
  refine ⟨by omega, by omega, by omega, by omega, ?_⟩
  have h4 : x / b.vol.toNat ≤ 1099511627776 := Nat.div_le_of_le_mul (by omega)
  exact Nat.lt_of_le_of_lt h4 (by decide)
theorem sound_small {b : Bar} {x n : Nat} (h : Sound b x n) (hn : n ≤ 1000) : b.trd ≤ 1000 ∧ b.vol ≤ 4611686018427387904 ∧ x ≤ 170141183460469231731687303715884105728 := by
  have h2 := h.v1
  have h3 := h.xv
  have h4 := h.t1
  exact ⟨by omega, by omega, by omega⟩
end Go.Proofs.Ytogjgpiddjmpiaa.Tape
