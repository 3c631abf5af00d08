/- Parts of the proof: R33A. -/
import Derived.Test.YtogjgpiddjmpiaaPart17

/- The document's Put: acknowledgements; any message. -/
namespace Go.Proofs.Ytogjgpiddjmpiaa.Depth
open Go.RowKit Go.Proofs.Ytogjgpiddjmpiaa.Kit Go.Proofs.Ytogjgpiddjmpiaa.Blk Go.Proofs.Ytogjgpiddjmpiaa.Mp Go.Proofs.Ytogjgpiddjmpiaa.Msgs Go.Proofs.Ytogjgpiddjmpiaa.Octets Go.Proofs.Ytogjgpiddjmpiaa.Tape
attribute [local go_sem ↓] Go.wp_at_zero Go.wp_at_succ
set_option linter.unusedVariables false
theorem mput_new {k : Key} {v : Rest} {L : List (Key × Rest)} (h : mget k L = none) : mput k v L = L ++ [(k, v)] := by
  induction L with
  | nil => rfl
  | cons p L ih =>
    obtain ⟨a, u⟩ := p
    by_cases hk : k = a
    · simp [mget, hk] at h
    · simp only [mget, hk, if_false] at h
      simp only [mput, hk, if_false, ih h, List.cons_append]
/-- Where the growing stands: the empty row in e, the new row's cells in nb. -/
structure AK (w : World) (m : Msg) (p : Key × Rest) (W : World) (e nb : Option Nat) : Prop where
  bel : Below w.heap.size w W
  mb : Blk W w.heap.size m.cells 66
  er : ∀ b, e = some b → W.ownsRow (w.heap.size + 1) 172 8 (.slice (some ⟨b, 0, none⟩) 0 0) 0 []
  nr : ∀ b, nb = some b → Blk W b (rowC p) 172 ∧ w.heap.size < b ∧ ∀ b', e = some b' → b ≠ b'
section
variable {w W : World} {m : Msg} {p : Key × Rest} {e nb : Option Nat}
theorem AK.le (h : AK w m p W e nb) : w.heap.size + 1 ≤ W.heap.size := h.mb.lt
theorem AK.alloc_e (h : AK w m p W none nb) : AK w m p (W.alloc (.cells #[] 172)) (some W.heap.size) nb :=
  ⟨h.bel.alloc (by have := h.le; omega) _, h.mb.old _, fun b hb => by
    injection hb with hb
    subst hb
    exact World.ownsRow_lit (base := w.heap.size + 1) (size := 8) W #[] 0 h.le (Nat.zero_le _) rfl, fun b hb => ⟨(h.nr b hb).1.old _, (h.nr b hb).2.1, fun b' hb' => by injection hb' with hb'; have := (h.nr b hb).1.lt; omega⟩⟩
theorem AK.alloc_n (h : AK w m p W e none) : AK w m p (W.alloc (.cells (rowC p) 172)) e (some W.heap.size) :=
  ⟨h.bel.alloc (by have := h.le; omega) _, h.mb.old _, fun b hb => (h.er b hb).alloc _, fun b hb => by
    injection hb with hb
    subst hb
    exact ⟨Blk.new _ _ _ _ rfl, h.le, fun b' hb' => by have := ((h.er b' hb').lt b' rfl).2; omega⟩⟩
theorem AK.drew (h : AK w m p W e nb) : AK w m p W.drew e nb := ⟨h.bel.drew, h.mb, fun b hb => (h.er b hb).drew, fun b hb => h.nr b hb⟩
/-- Where it stands behind the first append: the rows in v. -/
structure AV (w : World) (m : Msg) (p : Key × Rest) (L : List (Key × Rest)) (W : World) (v : Value) (nb : Option Nat) : Prop where
  bel : Below w.heap.size w W
  mb : Blk W w.heap.size m.cells 66
  own : W.ownsRow (w.heap.size + 1) 172 8 v L.length (rowsR L)
  nr : ∀ b, nb = some b → Blk W b (rowC p) 172 ∧ w.heap.size < b ∧ v.ownBlock ≠ some b
/-- Behind the second append. -/
structure AE (w : World) (m : Msg) (p : Key × Rest) (L : List (Key × Rest)) (W : World) (v : Value) : Prop where
  bel : Below w.heap.size w W
  mb : Blk W w.heap.size m.cells 66
  own : W.ownsRow (w.heap.size + 1) 172 8 v (L ++ [p]).length (rowsR (L ++ [p]))
theorem AE.done {L : List (Key × Rest)} {v v0 : Value} {N R : Nat} (h : AE w m p L W v) (hR : Blk w R #[v0] 74) (hRN : R < N) (hN : N ≤ w.heap.size) (u : Value) (hu : u = v) :
    RS N (W.setCell ⟨R, 0, none⟩ u) R (L ++ [p]) ∧ Chg w.heap.size R w (W.setCell ⟨R, 0, none⟩ u) ∧ Blk (W.setCell ⟨R, 0, none⟩ u) w.heap.size m.cells 66 := by
  subst hu
  exact ⟨⟨u, (hR.below h.bel hR.lt).set 0 u, hRN, owns_mono (h.own.kept (grown_cell _ R 0 _) (.inr (fun e => by have := (h.own.lt _ e).1; omega))) (by omega), fun e => by simp at e⟩,
    (Chg.of h.bel).setCell _ _ (.inl rfl), h.mb.apart _ _ (by show R ≠ _; omega)⟩
theorem AV.le {L : List (Key × Rest)} {v : Value} (h : AV w m p L W v nb) : w.heap.size + 1 ≤ W.heap.size := h.mb.lt
theorem AV.alloc_n {L : List (Key × Rest)} {v : Value} (h : AV w m p L W v none) : AV w m p L (W.alloc (.cells (rowC p) 172)) v (some W.heap.size) :=
  ⟨h.bel.alloc (by have := h.le; omega) _, h.mb.old _, h.own.alloc _, fun b hb => by
    injection hb with hb
    subst hb
    exact ⟨Blk.new _ _ _ _ rfl, h.le, fun e => by have := (h.own.lt _ e).2; omega⟩⟩
theorem AV.push {L : List (Key × Rest)} {v : Value} {W' : World} {g cap : Nat} (h : AV w m p L W v nb) (hown : W'.ownsRow (w.heap.size + 1) 172 8 (.slice (some ⟨g, 0, none⟩) (L.length + 1) cap) (L.length + 1) (rowsR L ++ (rowC p).toList))
    (hg : W.grownBy W' v.ownBlock) : AE w m p L W' (.slice (some ⟨g, 0, none⟩) (L.length + 1) cap) :=
  ⟨h.bel.grown hg (by have := h.le; omega) (fun k e => by have := (h.own.lt k e).1; omega),
    (hg.block _ h.mb.lt (fun e => by have := (h.own.lt _ e.symm).1; omega)).trans h.mb, by rw [List.length_append, rowsR_app]; exact hown⟩
theorem AK.still {e : Nat} (h : AK w m p W (some e) nb) : AV w m p [] W (.slice (some ⟨e, 0, none⟩) 0 0) nb :=
  ⟨h.bel, h.mb, h.er e rfl, fun b hb => ⟨(h.nr b hb).1, (h.nr b hb).2.1, fun e' => (h.nr b hb).2.2 e rfl (by have e' : some e = some b := e'; injection e' with e'; exact e'.symm)⟩⟩
theorem AK.grow {e g cap : Nat} {L : List (Key × Rest)} {W' : World} (h : AK w m p W (some e) nb) (hown : W'.ownsRow (w.heap.size + 1) 172 8 (.slice (some ⟨g, 0, none⟩) (0 + L.length) cap) (0 + L.length) ([] ++ rowsR L))
    (hg : W.grownBy W' (some e)) (hat : some e = some g ∨ g = W.heap.size) : AV w m p L W' (.slice (some ⟨g, 0, none⟩) L.length cap) nb := by
  have he := (h.er e rfl).lt e rfl
  rw [Nat.zero_add, List.nil_append] at hown
  refine ⟨h.bel.grown hg (by have := h.le; omega) (fun k e' => by injection e' with e'; omega), ?_, hown, fun b hb => ?_⟩
  · exact (hg.block _ h.mb.lt (fun e' => by injection e' with e'; omega)).trans h.mb
  · obtain ⟨h1, h2, h3⟩ := h.nr b hb
    refine ⟨(hg.block b h1.lt (fun e' => h3 e rfl (by injection e' with e'))).trans h1, h2, fun e' => ?_⟩
    have e' : some g = some b := e'
    injection e' with e'
    rcases hat with h4 | h4
    · injection h4 with h4; exact h3 e rfl (by omega)
    · have := h1.lt; omega
end
-- ORDERS
theorem step_append_none {P : Program} {w : World} {ops : Array Oper} {o : Oper} {a : Act} {K : Act → World → Prop} {Q : Exit → Act → World → Prop} {E : Prop} (hgd : o.guard = none) (s x : Operand) (t : TypeId)
    (ho : o.op = .call { callee := .builtin .append, args := #[s, x], argTypes := #[t, t] })
    (base : Nat) (e : TypeId) (i : TypeInfo) (size : Nat) (ht : P.underlying t = some (.slice e)) (hi : P.info? e = some i)
    (v : Value) (n : Nat) (xs : List Value) (hs : a.eval s = v) (hown : w.ownsRow base e size v n xs) (hx : a.eval x = .slice none 0 0)
    (h : K (a.put o.dst v) w) :
    if Region.wanted o (yielded ops a.tmps) = true then Oper.wp P o a w K Q else E := by
  have hw : Region.wanted o (yielded ops a.tmps) = true := by simp [Region.wanted, hgd]
  rw [if_pos hw]
  have hrun := run_append_owned_none (P := P) (w := w) base t o.type e i size ht hi v n xs hown
  unfold Oper.wp execOp
  simp only [ho, resolve, invoke, builtin, Sem.run_bind, Sem.run_pure, Result.andThen_ok, List.map_toArray, List.map_cons, List.map_nil, hs, hx, hrun]
  exact h
set_option maxRecDepth 20000 in
set_option maxHeartbeats 4000000 in
theorem ack_full0 (N R : Nat) (L : List (Key × Rest)) (m : Msg) (w : World) (h : RS N w R L) (hN : N ≤ w.heap.size) (hl : L.length ≤ 900) (hLp : 0 < L.length) (h1 : m.kind = 1) (hq : ¬ m.qty < 1) (hc : m.code = 0 ∨ m.code = 1) (c0 : (m.code != 0) = false)
    (hp1 : ¬ m.price < 1) (hp2 : ¬ 1099511627776 < m.price) (hk : mget (m.sym, m.id) L = none) :
    Calls Try.prog 38 #[.pointer (some ⟨R, 0, none⟩), .agg m.cells] w (RPutIs N R L m w) := by
  have g1 : (m.kind == 1) = true := by simp [h1]
  have HE := Lib.hid (show putF L m = (L ++ [((m.sym, m.id), ⟨m.code, m.price, m.qty⟩)], true) by
    have : 1 ≤ m.price ∧ m.price ≤ 1099511627776 := by omega
    simp [putF, h1, hk, hq, hc, this, mput_new hk])
  have HFE : findF L (m.sym, m.id) = -1 := by simp [findF, hk]
  clear h1 hc hk
  obtain ⟨v0, hR0, hRN, hrow0, hnil0⟩ := id h
  have HW0 := Lib.hid hrow0
  have HONE := Lib.hid (show ∀ u ∈ rowsR L, u.oneCell' = true from fun u hu => by
    obtain ⟨q, _, hq⟩ := List.mem_flatMap.1 hu
    exact one_mem (one_row q) u hq)
  obtain ⟨i0, hi0, hz0, hz1, hz2⟩ := info_parts infoRow
  obtain ⟨g0, cap0, rfl, hc0, hg0⟩ := World.ownsRow.form hrow0 hLp
  have HR0 := Lib.hid hR0
  have HNEW := Lib.hid (show ∀ j u, (rowsR L)[j]? = some u → w.cell? ((⟨g0, 0, none⟩ : Addr).add j) = some u from HW0.out.cells rfl)
  clear hR0 hrow0 hnil0
  have HS := Lib.hid (rb_start m h hN)
  clear h
  have m0 : (w.alloc (.cells m.cells 66)).cell? ⟨w.heap.size, 0, none⟩ = some (.int .i64 m.kind) := HS.out.mb.cell 0 rfl
  have m1 : (w.alloc (.cells m.cells 66)).cell? ⟨w.heap.size, 1, none⟩ = some (.int .i64 m.sym) := HS.out.mb.cell 1 rfl
  have m4 : (w.alloc (.cells m.cells 66)).cell? ⟨w.heap.size, 4, none⟩ = some (.int .i64 m.id) := HS.out.mb.cell 4 rfl
  have m5 : (w.alloc (.cells m.cells 66)).cell? ⟨w.heap.size, 5, none⟩ = some (.int .i64 m.wth) := HS.out.mb.cell 5 rfl
  have m6 : (w.alloc (.cells m.cells 66)).cell? ⟨w.heap.size, 6, none⟩ = some (.int .i64 m.price) := HS.out.mb.cell 6 rfl
  have m7 : (w.alloc (.cells m.cells 66)).cell? ⟨w.heap.size, 7, none⟩ = some (.int .i64 m.qty) := HS.out.mb.cell 7 rfl
  have m8 : (w.alloc (.cells m.cells 66)).cell? ⟨w.heap.size, 8, none⟩ = some (.int .i64 m.code) := HS.out.mb.cell 8 rfl
  go_enter Try.func38, Try.ntmps38
  go_wp2_with fail
  refine (find_any N R _ m.sym m.id _ HS.out.rs).mono ?_
  rintro e w2 ⟨rfl, rfl⟩
  rw [HFE]
  clear m0 m1 m4 m5 m6 m7 m8
  go_upto_region 5 with fail
  have HA := Lib.hid (show AK w m ((m.sym, m.id), ⟨m.code, m.price, m.qty⟩) (w.alloc (.cells m.cells 66)) none none from ⟨(Below.refl _ _).alloc (Nat.le_refl _) _, Blk.new _ _ _ _ rfl, fun b hb => (by cases hb), fun b hb => (by cases hb)⟩)
  generalize w.alloc (.cells m.cells 66) = W1 at HS HA ⊢
  refine wp_region_held_drew (S := (fun w' => w'.cell? ⟨w.heap.size, 1, none⟩ = some (.int .i64 m.sym) ∧ w'.cell? ⟨w.heap.size, 4, none⟩ = some (.int .i64 m.id) ∧ w'.cell? ⟨w.heap.size, 6, none⟩ = some (.int .i64 m.price) ∧ w'.cell? ⟨w.heap.size, 7, none⟩ = some (.int .i64 m.qty) ∧ w'.cell? ⟨w.heap.size, 8, none⟩ = some (.int .i64 m.code))) (by kernel_rfl) ⟨HS.out.mb.cell 1 rfl, HS.out.mb.cell 4 rfl, HS.out.mb.cell 6 rfl, HS.out.mb.cell 7 rfl, HS.out.mb.cell 8 rfl⟩ (fun hHeld => ?_)
  clear HS
  replace HA := Lib.hid HA.out.drew
  generalize W1.drew = W2 at HA hHeld ⊢
  refine wpAnyH_take (i := 0) (oi := ⟨some 44, _, _, _, _, _⟩) (v := (.pointer (some ⟨R, 0, none⟩))) rfl (by kernel_rfl) (by kernel_rfl) (by kernel_rfl) (fun _ _ _ h => h) (Or.inl ⟨by rfl, fun w hSw => by (try dsimp only at hSw); go_simp⟩) (by assumption) ?_
  simp only [Act.put, List.setIfInBounds_toArray, List.set_cons_zero, List.set_cons_succ]
  refine wpAnyH_take (i := 2) (oi := ⟨some 46, _, _, _, _, _⟩) (v := (.pointer (some ⟨R, 0, none⟩))) rfl (by kernel_rfl) (by kernel_rfl) (by kernel_rfl) (fun _ _ _ h => h) (Or.inl ⟨by rfl, fun w hSw => by (try dsimp only at hSw); go_simp⟩) (by assumption) ?_
  simp only [Act.put, List.setIfInBounds_toArray, List.set_cons_zero, List.set_cons_succ]
  refine wpAnyH_take (i := 3) (oi := ⟨some 47, _, _, _, _, _⟩) (v := (.pointer (some ⟨R, 0, none⟩))) rfl (by kernel_rfl) (by kernel_rfl) (by kernel_rfl) (fun _ _ _ h => h) (Or.inl ⟨by rfl, fun w hSw => by (try dsimp only at hSw); go_simp⟩) (by assumption) ?_
  simp only [Act.put, List.setIfInBounds_toArray, List.set_cons_zero, List.set_cons_succ]
  refine wpAnyH_take (i := 4) (oi := ⟨some 48, _, _, _, _, _⟩) (v := (.pointer (some ⟨R, 0, none⟩))) rfl (by kernel_rfl) (by kernel_rfl) (by kernel_rfl) (fun _ _ _ h => h) (Or.inl ⟨by rfl, fun w hSw => by (try dsimp only at hSw); go_simp⟩) (by assumption) ?_
  simp only [Act.put, List.setIfInBounds_toArray, List.set_cons_zero, List.set_cons_succ]
  refine wpAnyH_take (i := 7) (oi := ⟨some 51, _, _, _, _, _⟩) (v := (.pointer (some ⟨w.heap.size, 1, none⟩))) rfl (by kernel_rfl) (by kernel_rfl) (by kernel_rfl) (fun _ _ _ h => h) (Or.inl ⟨by rfl, fun w hSw => by (try dsimp only at hSw); go_simp⟩) (by assumption) ?_
  simp only [Act.put, List.setIfInBounds_toArray, List.set_cons_zero, List.set_cons_succ]
  refine wpAnyH_take (i := 8) (oi := ⟨some 52, _, _, _, _, _⟩) (v := (.int .i64 m.sym)) rfl (by kernel_rfl) (by kernel_rfl) (by kernel_rfl) (fun _ _ _ h => h) (Or.inl ⟨by rfl, fun w hSw => by (try dsimp only at hSw); go_simp⟩) (by assumption) ?_
  simp only [Act.put, List.setIfInBounds_toArray, List.set_cons_zero, List.set_cons_succ]
  refine wpAnyH_take (i := 9) (oi := ⟨some 53, _, _, _, _, _⟩) (v := (.pointer (some ⟨w.heap.size, 4, none⟩))) rfl (by kernel_rfl) (by kernel_rfl) (by kernel_rfl) (fun _ _ _ h => h) (Or.inl ⟨by rfl, fun w hSw => by (try dsimp only at hSw); go_simp⟩) (by assumption) ?_
  simp only [Act.put, List.setIfInBounds_toArray, List.set_cons_zero, List.set_cons_succ]
  refine wpAnyH_take (i := 10) (oi := ⟨some 54, _, _, _, _, _⟩) (v := (.int .i64 m.id)) rfl (by kernel_rfl) (by kernel_rfl) (by kernel_rfl) (fun _ _ _ h => h) (Or.inl ⟨by rfl, fun w hSw => by (try dsimp only at hSw); go_simp⟩) (by assumption) ?_
  simp only [Act.put, List.setIfInBounds_toArray, List.set_cons_zero, List.set_cons_succ]
  refine wpAnyH_take (i := 11) (oi := ⟨some 55, _, _, _, _, _⟩) (v := (.pointer (some ⟨w.heap.size, 8, none⟩))) rfl (by kernel_rfl) (by kernel_rfl) (by kernel_rfl) (fun _ _ _ h => h) (Or.inl ⟨by rfl, fun w hSw => by (try dsimp only at hSw); go_simp⟩) (by assumption) ?_
  simp only [Act.put, List.setIfInBounds_toArray, List.set_cons_zero, List.set_cons_succ]
  refine wpAnyH_take (i := 12) (oi := ⟨some 56, _, _, _, _, _⟩) (v := (.int .i64 m.code)) rfl (by kernel_rfl) (by kernel_rfl) (by kernel_rfl) (fun _ _ _ h => h) (Or.inl ⟨by rfl, fun w hSw => by (try dsimp only at hSw); go_simp⟩) (by assumption) ?_
  simp only [Act.put, List.setIfInBounds_toArray, List.set_cons_zero, List.set_cons_succ]
  refine wpAnyH_take (i := 13) (oi := ⟨some 57, _, _, _, _, _⟩) (v := (.pointer (some ⟨w.heap.size, 6, none⟩))) rfl (by kernel_rfl) (by kernel_rfl) (by kernel_rfl) (fun _ _ _ h => h) (Or.inl ⟨by rfl, fun w hSw => by (try dsimp only at hSw); go_simp⟩) (by assumption) ?_
  simp only [Act.put, List.setIfInBounds_toArray, List.set_cons_zero, List.set_cons_succ]
  refine wpAnyH_take (i := 14) (oi := ⟨some 58, _, _, _, _, _⟩) (v := (.int .i64 m.price)) rfl (by kernel_rfl) (by kernel_rfl) (by kernel_rfl) (fun _ _ _ h => h) (Or.inl ⟨by rfl, fun w hSw => by (try dsimp only at hSw); go_simp⟩) (by assumption) ?_
  simp only [Act.put, List.setIfInBounds_toArray, List.set_cons_zero, List.set_cons_succ]
  refine wpAnyH_take (i := 15) (oi := ⟨some 59, _, _, _, _, _⟩) (v := (.pointer (some ⟨w.heap.size, 7, none⟩))) rfl (by kernel_rfl) (by kernel_rfl) (by kernel_rfl) (fun _ _ _ h => h) (Or.inl ⟨by rfl, fun w hSw => by (try dsimp only at hSw); go_simp⟩) (by assumption) ?_
  simp only [Act.put, List.setIfInBounds_toArray, List.set_cons_zero, List.set_cons_succ]
  refine wpAnyH_take (i := 16) (oi := ⟨some 60, _, _, _, _, _⟩) (v := (.int .i64 m.qty)) rfl (by kernel_rfl) (by kernel_rfl) (by kernel_rfl) (fun _ _ _ h => h) (Or.inl ⟨by rfl, fun w hSw => by (try dsimp only at hSw); go_simp⟩) (by assumption) ?_
  simp only [Act.put, List.setIfInBounds_toArray, List.set_cons_zero, List.set_cons_succ]
  refine wpAnyH_take (i := 17) (oi := ⟨some 61, _, _, _, _, _⟩) (v := (.agg #[.int .i64 m.id, .int .i64 0, .int .i64 m.code, .int .i64 m.price, .int .i64 m.qty, .int .i64 0, .int .i64 0])) rfl (by kernel_rfl) (by kernel_rfl) (by kernel_rfl) (fun _ _ _ h => h) (Or.inl ⟨by rfl, fun w hSw => by (try dsimp only at hSw); go_simp⟩) (by assumption) ?_
  simp only [Act.put, List.setIfInBounds_toArray, List.set_cons_zero, List.set_cons_succ]
  refine wpAnyH_take (i := 18) (oi := ⟨some 62, _, _, _, _, _⟩) (v := (.agg #[.int .i64 m.sym, .int .i64 m.id, .int .i64 0, .int .i64 m.code, .int .i64 m.price, .int .i64 m.qty, .int .i64 0, .int .i64 0])) rfl (by kernel_rfl) (by kernel_rfl) (by kernel_rfl) (fun _ _ _ h => h) (Or.inl ⟨by rfl, fun w hSw => by (try dsimp only at hSw); go_simp⟩) (by assumption) ?_
  simp only [Act.put, List.setIfInBounds_toArray, List.set_cons_zero, List.set_cons_succ]
  refine wpAnyH_ready (rs := [1, 5, 19]) (by kernel_rfl) (by simp) ?_
  refine AllReadyH.cons (o := ⟨some 45, _, _, _, _, _⟩) rfl (fun KK hK => ?_) (AllReadyH.cons (o := ⟨some 49, _, _, _, _, _⟩) rfl (fun KK hK => ?_) (AllReadyH.cons (o := ⟨some 63, _, _, _, _, _⟩) rfl (fun KK hK => ?_) (AllReadyH.nil)))
  · go_simp
    change KK _ (W2.alloc (.cells #[] 172))
    replace HA := Lib.hid HA.out.alloc_e
    generalize W2.alloc (.cells #[] 172) = W3 at HA ⊢
    generalize W2.heap.size = e1 at HA ⊢
    refine hK.out _ _ ⟨HA.out.mb.cell 1 rfl, HA.out.mb.cell 4 rfl, HA.out.mb.cell 6 rfl, HA.out.mb.cell 7 rfl, HA.out.mb.cell 8 rfl⟩ (fun hHeld => ?_)
    clear hK; try clear KK
    try simp only [Act.put, List.setIfInBounds_toArray, List.set_cons_zero, List.set_cons_succ]
    refine wpAnyH_ready (rs := [5, 19]) (by kernel_rfl) (by simp) ?_
    refine AllReadyH.cons (o := ⟨some 49, _, _, _, _, _⟩) rfl (fun KK hK => ?_) (AllReadyH.cons (o := ⟨some 63, _, _, _, _, _⟩) rfl (fun KK hK => ?_) (AllReadyH.nil))
    · have cR : W3.cell? ⟨R, 0, none⟩ = some (.slice (some ⟨g0, 0, none⟩) L.length cap0) := by rw [HA.out.bel.cell (p := ⟨R, 0, none⟩) HR0.out.lt]; exact HR0.out.cell 0 rfl
      go_simp
      clear cR
      refine hK.out _ _ ⟨HA.out.mb.cell 1 rfl, HA.out.mb.cell 4 rfl, HA.out.mb.cell 6 rfl, HA.out.mb.cell 7 rfl, HA.out.mb.cell 8 rfl⟩ (fun hHeld => ?_)
      clear hK; try clear KK
      try simp only [Act.put, List.setIfInBounds_toArray, List.set_cons_zero, List.set_cons_succ]
      refine wpAnyH_ready (rs := [6, 19]) (by kernel_rfl) (by simp) ?_
      refine AllReadyH.cons (o := ⟨some 50, _, _, _, _, _⟩) rfl (fun KK hK => ?_) (AllReadyH.cons (o := ⟨some 63, _, _, _, _, _⟩) rfl (fun KK hK => ?_) (AllReadyH.nil))
      · refine step_append_lies _ (by rfl) _ _ _ (by rfl) (w.heap.size + 1) 172 i0 (.agg rowZ) 8 64 Try.underlying72 hi0 hz0 hz1 hz2 (by rfl) (by decide) _ 0 [] (by rfl) (HA.out.er e1 rfl) ⟨g0, 0, none⟩ L.length cap0 (rowsR L) (by rfl) (flat_len rowC 8 rowC_size L) (fun j u hu => (HA.out.bel.cell (p := (⟨g0, 0, none⟩ : Addr).add j) (by simp only [Addr.add]; split <;> exact hg0)).trans (HNEW.out j u hu)) HONE.out hLp (by unfold maxLen; omega) (by omega) HA.out.le W3.heap.size rfl ?_
        intro g cap W4 hown hgrow hat hlt
        rw [Nat.zero_add]
        have HV := Lib.hid (HA.out.grow hown hgrow hat)
        clear hown hgrow hat hlt HA
        refine hK.out _ _ ⟨HV.out.mb.cell 1 rfl, HV.out.mb.cell 4 rfl, HV.out.mb.cell 6 rfl, HV.out.mb.cell 7 rfl, HV.out.mb.cell 8 rfl⟩ (fun hHeld => ?_)
        clear hK; try clear KK
        try simp only [Act.put, List.setIfInBounds_toArray, List.set_cons_zero, List.set_cons_succ]
        refine wpAnyH_ready (rs := [19]) (by kernel_rfl) (by simp) ?_
        refine AllReadyH.cons (o := ⟨some 63, _, _, _, _, _⟩) rfl (fun KK hK => ?_) AllReadyH.nil
        go_simp
        change KK _ (W4.alloc (.cells (rowC ((m.sym, m.id), ⟨m.code, m.price, m.qty⟩)) 172))
        replace HV := Lib.hid HV.out.alloc_n
        generalize W4.alloc (.cells (rowC ((m.sym, m.id), ⟨m.code, m.price, m.qty⟩)) 172) = W5 at HV ⊢
        generalize W4.heap.size = nb1 at HV ⊢
        refine hK.out _ _ ⟨HV.out.mb.cell 1 rfl, HV.out.mb.cell 4 rfl, HV.out.mb.cell 6 rfl, HV.out.mb.cell 7 rfl, HV.out.mb.cell 8 rfl⟩ (fun hHeld => ?_)
        clear hK; try clear KK
        try simp only [Act.put, List.setIfInBounds_toArray, List.set_cons_zero, List.set_cons_succ]
        refine wpAnyH_ready (rs := [20]) (by kernel_rfl) (by simp) ?_
        refine AllReadyH.cons (o := ⟨some 64, _, _, _, _, _⟩) rfl (fun KK hK => ?_) AllReadyH.nil
        refine step_append_lies _ (by rfl) _ _ _ (by rfl) (w.heap.size + 1) 172 i0 (.agg rowZ) 8 64 Try.underlying72 hi0 hz0 hz1 hz2 (by rfl) (by decide) _ L.length (rowsR L) (by rfl) HV.out.own ⟨nb1, 0, none⟩ 1 1 (rowC ((m.sym, m.id), ⟨m.code, m.price, m.qty⟩)).toList (by rfl) (by rfl) (news_blk (HV.out.nr nb1 rfl).1) (one_mem (one_row _)) (by decide) (by unfold maxLen; (try simp only [List.length_nil]); omega) (by (try simp only [List.length_nil]); omega) HV.out.le W5.heap.size rfl ?_
        intro g9 cap9 w9 hown9 hgrow9 hat9 hlt9
        replace HV := Lib.hid (HV.out.push hown9 hgrow9)
        clear hown9 hgrow9 hat9 hlt9
        refine hK.out _ _ ⟨HV.out.mb.cell 1 rfl, HV.out.mb.cell 4 rfl, HV.out.mb.cell 6 rfl, HV.out.mb.cell 7 rfl, HV.out.mb.cell 8 rfl⟩ (fun hHeld => ?_)
        clear hK; try clear KK
        try simp only [Act.put, List.setIfInBounds_toArray, List.set_cons_zero, List.set_cons_succ]
        refine wpAnyH_take (i := 21) (oi := ⟨some 65, _, _, _, _, _⟩) (v := (.pointer (some ⟨R, 0, none⟩))) rfl (by kernel_rfl) (by kernel_rfl) (by kernel_rfl) (fun _ _ _ h => h) (Or.inl ⟨by rfl, fun w hSw => by (try dsimp only at hSw); go_simp⟩) (by assumption) ?_
        simp only [Act.put, List.setIfInBounds_toArray, List.set_cons_zero, List.set_cons_succ]
        refine wpAnyH_take (i := 22) (oi := ⟨some 66, _, _, _, _, _⟩) (v := (.pointer (some ⟨R, 0, none⟩))) rfl (by kernel_rfl) (by kernel_rfl) (by kernel_rfl) (fun _ _ _ h => h) (Or.inl ⟨by rfl, fun w hSw => by (try dsimp only at hSw); go_simp⟩) (by assumption) ?_
        simp only [Act.put, List.setIfInBounds_toArray, List.set_cons_zero, List.set_cons_succ]
        refine wpAnyH_ready (rs := [23]) (by kernel_rfl) (by simp) ?_
        refine AllReadyH.cons (o := ⟨none, _, _, _, _, _⟩) rfl (fun KK hK => ?_) AllReadyH.nil
        have cR9 := (HR0.out.below HV.out.bel HR0.out.lt).cell 0 rfl
        have fR : w9.frozen? ⟨R, 0, none⟩ = false := (HR0.out.below HV.out.bel HR0.out.lt).free 0
        have HEND := Lib.hid (show RS N (w9.setCell ⟨R, 0, none⟩ (.slice (some ⟨g9, 0, none⟩) (L.length + 1) cap9)) R (L ++ [((m.sym, m.id), ⟨m.code, m.price, m.qty⟩)]) ∧ Chg w.heap.size R w (w9.setCell ⟨R, 0, none⟩ (.slice (some ⟨g9, 0, none⟩) (L.length + 1) cap9)) ∧ Blk (w9.setCell ⟨R, 0, none⟩ (.slice (some ⟨g9, 0, none⟩) (L.length + 1) cap9)) w.heap.size m.cells 66 from HV.out.done HR0.out hRN hN _ rfl)
        go_simp
        change KK _ (w9.setCell ⟨R, 0, none⟩ (.slice (some ⟨g9, 0, none⟩) (L.length + 1) cap9))
        generalize w9.setCell ⟨R, 0, none⟩ (.slice (some ⟨g9, 0, none⟩) (L.length + 1) cap9) = w10 at HEND ⊢
        refine hK.out _ _ ⟨HEND.out.2.2.cell 1 rfl, HEND.out.2.2.cell 4 rfl, HEND.out.2.2.cell 6 rfl, HEND.out.2.2.cell 7 rfl, HEND.out.2.2.cell 8 rfl⟩ (fun hHeld => ?_)
        clear hK; try clear KK
        refine wpAnyH_done (by kernel_rfl) ?_ _
        go_wp2_with fail
        go_ret
        exact ⟨by (show Ending.returned (.bool true) = _; rw [HE.out]), by rw [HE.out]; exact HEND.out.1, HEND.out.2.1⟩
      · go_simp
        change KK _ (W3.alloc (.cells (rowC ((m.sym, m.id), ⟨m.code, m.price, m.qty⟩)) 172))
        replace HA := Lib.hid HA.out.alloc_n
        generalize W3.alloc (.cells (rowC ((m.sym, m.id), ⟨m.code, m.price, m.qty⟩)) 172) = W6 at HA ⊢
        generalize W3.heap.size = nb1 at HA ⊢
        refine hK.out _ _ ⟨HA.out.mb.cell 1 rfl, HA.out.mb.cell 4 rfl, HA.out.mb.cell 6 rfl, HA.out.mb.cell 7 rfl, HA.out.mb.cell 8 rfl⟩ (fun hHeld => ?_)
        clear hK; try clear KK
        try simp only [Act.put, List.setIfInBounds_toArray, List.set_cons_zero, List.set_cons_succ]
        refine wpAnyH_ready (rs := [6]) (by kernel_rfl) (by simp) ?_
        refine AllReadyH.cons (o := ⟨some 50, _, _, _, _, _⟩) rfl (fun KK hK => ?_) AllReadyH.nil
        refine step_append_lies _ (by rfl) _ _ _ (by rfl) (w.heap.size + 1) 172 i0 (.agg rowZ) 8 64 Try.underlying72 hi0 hz0 hz1 hz2 (by rfl) (by decide) _ 0 [] (by rfl) (HA.out.er e1 rfl) ⟨g0, 0, none⟩ L.length cap0 (rowsR L) (by rfl) (flat_len rowC 8 rowC_size L) (fun j u hu => (HA.out.bel.cell (p := (⟨g0, 0, none⟩ : Addr).add j) (by simp only [Addr.add]; split <;> exact hg0)).trans (HNEW.out j u hu)) HONE.out hLp (by unfold maxLen; omega) (by omega) HA.out.le W6.heap.size rfl ?_
        intro g cap W7 hown hgrow hat hlt
        rw [Nat.zero_add]
        have HV := Lib.hid (HA.out.grow hown hgrow hat)
        clear hown hgrow hat hlt HA
        refine hK.out _ _ ⟨HV.out.mb.cell 1 rfl, HV.out.mb.cell 4 rfl, HV.out.mb.cell 6 rfl, HV.out.mb.cell 7 rfl, HV.out.mb.cell 8 rfl⟩ (fun hHeld => ?_)
        clear hK; try clear KK
        try simp only [Act.put, List.setIfInBounds_toArray, List.set_cons_zero, List.set_cons_succ]
        refine wpAnyH_ready (rs := [20]) (by kernel_rfl) (by simp) ?_
        refine AllReadyH.cons (o := ⟨some 64, _, _, _, _, _⟩) rfl (fun KK hK => ?_) AllReadyH.nil
        refine step_append_lies _ (by rfl) _ _ _ (by rfl) (w.heap.size + 1) 172 i0 (.agg rowZ) 8 64 Try.underlying72 hi0 hz0 hz1 hz2 (by rfl) (by decide) _ L.length (rowsR L) (by rfl) HV.out.own ⟨nb1, 0, none⟩ 1 1 (rowC ((m.sym, m.id), ⟨m.code, m.price, m.qty⟩)).toList (by rfl) (by rfl) (news_blk (HV.out.nr nb1 rfl).1) (one_mem (one_row _)) (by decide) (by unfold maxLen; (try simp only [List.length_nil]); omega) (by (try simp only [List.length_nil]); omega) HV.out.le W7.heap.size rfl ?_
        intro g9 cap9 w9 hown9 hgrow9 hat9 hlt9
        replace HV := Lib.hid (HV.out.push hown9 hgrow9)
        clear hown9 hgrow9 hat9 hlt9
        refine hK.out _ _ ⟨HV.out.mb.cell 1 rfl, HV.out.mb.cell 4 rfl, HV.out.mb.cell 6 rfl, HV.out.mb.cell 7 rfl, HV.out.mb.cell 8 rfl⟩ (fun hHeld => ?_)
        clear hK; try clear KK
        try simp only [Act.put, List.setIfInBounds_toArray, List.set_cons_zero, List.set_cons_succ]
        refine wpAnyH_take (i := 21) (oi := ⟨some 65, _, _, _, _, _⟩) (v := (.pointer (some ⟨R, 0, none⟩))) rfl (by kernel_rfl) (by kernel_rfl) (by kernel_rfl) (fun _ _ _ h => h) (Or.inl ⟨by rfl, fun w hSw => by (try dsimp only at hSw); go_simp⟩) (by assumption) ?_
        simp only [Act.put, List.setIfInBounds_toArray, List.set_cons_zero, List.set_cons_succ]
        refine wpAnyH_take (i := 22) (oi := ⟨some 66, _, _, _, _, _⟩) (v := (.pointer (some ⟨R, 0, none⟩))) rfl (by kernel_rfl) (by kernel_rfl) (by kernel_rfl) (fun _ _ _ h => h) (Or.inl ⟨by rfl, fun w hSw => by (try dsimp only at hSw); go_simp⟩) (by assumption) ?_
        simp only [Act.put, List.setIfInBounds_toArray, List.set_cons_zero, List.set_cons_succ]
        refine wpAnyH_ready (rs := [23]) (by kernel_rfl) (by simp) ?_
        refine AllReadyH.cons (o := ⟨none, _, _, _, _, _⟩) rfl (fun KK hK => ?_) AllReadyH.nil
        have cR9 := (HR0.out.below HV.out.bel HR0.out.lt).cell 0 rfl
        have fR : w9.frozen? ⟨R, 0, none⟩ = false := (HR0.out.below HV.out.bel HR0.out.lt).free 0
        have HEND := Lib.hid (show RS N (w9.setCell ⟨R, 0, none⟩ (.slice (some ⟨g9, 0, none⟩) (L.length + 1) cap9)) R (L ++ [((m.sym, m.id), ⟨m.code, m.price, m.qty⟩)]) ∧ Chg w.heap.size R w (w9.setCell ⟨R, 0, none⟩ (.slice (some ⟨g9, 0, none⟩) (L.length + 1) cap9)) ∧ Blk (w9.setCell ⟨R, 0, none⟩ (.slice (some ⟨g9, 0, none⟩) (L.length + 1) cap9)) w.heap.size m.cells 66 from HV.out.done HR0.out hRN hN _ rfl)
        go_simp
        change KK _ (w9.setCell ⟨R, 0, none⟩ (.slice (some ⟨g9, 0, none⟩) (L.length + 1) cap9))
        generalize w9.setCell ⟨R, 0, none⟩ (.slice (some ⟨g9, 0, none⟩) (L.length + 1) cap9) = w10 at HEND ⊢
        refine hK.out _ _ ⟨HEND.out.2.2.cell 1 rfl, HEND.out.2.2.cell 4 rfl, HEND.out.2.2.cell 6 rfl, HEND.out.2.2.cell 7 rfl, HEND.out.2.2.cell 8 rfl⟩ (fun hHeld => ?_)
        clear hK; try clear KK
        refine wpAnyH_done (by kernel_rfl) ?_ _
        go_wp2_with fail
        go_ret
        exact ⟨by (show Ending.returned (.bool true) = _; rw [HE.out]), by rw [HE.out]; exact HEND.out.1, HEND.out.2.1⟩
    · go_simp
      change KK _ (W3.alloc (.cells (rowC ((m.sym, m.id), ⟨m.code, m.price, m.qty⟩)) 172))
      replace HA := Lib.hid HA.out.alloc_n
      generalize W3.alloc (.cells (rowC ((m.sym, m.id), ⟨m.code, m.price, m.qty⟩)) 172) = W8 at HA ⊢
      generalize W3.heap.size = nb1 at HA ⊢
      refine hK.out _ _ ⟨HA.out.mb.cell 1 rfl, HA.out.mb.cell 4 rfl, HA.out.mb.cell 6 rfl, HA.out.mb.cell 7 rfl, HA.out.mb.cell 8 rfl⟩ (fun hHeld => ?_)
      clear hK; try clear KK
      try simp only [Act.put, List.setIfInBounds_toArray, List.set_cons_zero, List.set_cons_succ]
      refine wpAnyH_ready (rs := [5]) (by kernel_rfl) (by simp) ?_
      refine AllReadyH.cons (o := ⟨some 49, _, _, _, _, _⟩) rfl (fun KK hK => ?_) AllReadyH.nil
      have cR : W8.cell? ⟨R, 0, none⟩ = some (.slice (some ⟨g0, 0, none⟩) L.length cap0) := by rw [HA.out.bel.cell (p := ⟨R, 0, none⟩) HR0.out.lt]; exact HR0.out.cell 0 rfl
      go_simp
      clear cR
      refine hK.out _ _ ⟨HA.out.mb.cell 1 rfl, HA.out.mb.cell 4 rfl, HA.out.mb.cell 6 rfl, HA.out.mb.cell 7 rfl, HA.out.mb.cell 8 rfl⟩ (fun hHeld => ?_)
      clear hK; try clear KK
      try simp only [Act.put, List.setIfInBounds_toArray, List.set_cons_zero, List.set_cons_succ]
      refine wpAnyH_ready (rs := [6]) (by kernel_rfl) (by simp) ?_
      refine AllReadyH.cons (o := ⟨some 50, _, _, _, _, _⟩) rfl (fun KK hK => ?_) AllReadyH.nil
      refine step_append_lies _ (by rfl) _ _ _ (by rfl) (w.heap.size + 1) 172 i0 (.agg rowZ) 8 64 Try.underlying72 hi0 hz0 hz1 hz2 (by rfl) (by decide) _ 0 [] (by rfl) (HA.out.er e1 rfl) ⟨g0, 0, none⟩ L.length cap0 (rowsR L) (by rfl) (flat_len rowC 8 rowC_size L) (fun j u hu => (HA.out.bel.cell (p := (⟨g0, 0, none⟩ : Addr).add j) (by simp only [Addr.add]; split <;> exact hg0)).trans (HNEW.out j u hu)) HONE.out hLp (by unfold maxLen; omega) (by omega) HA.out.le W8.heap.size rfl ?_
      intro g cap W9 hown hgrow hat hlt
      rw [Nat.zero_add]
      have HV := Lib.hid (HA.out.grow hown hgrow hat)
      clear hown hgrow hat hlt HA
      refine hK.out _ _ ⟨HV.out.mb.cell 1 rfl, HV.out.mb.cell 4 rfl, HV.out.mb.cell 6 rfl, HV.out.mb.cell 7 rfl, HV.out.mb.cell 8 rfl⟩ (fun hHeld => ?_)
      clear hK; try clear KK
      try simp only [Act.put, List.setIfInBounds_toArray, List.set_cons_zero, List.set_cons_succ]
      refine wpAnyH_ready (rs := [20]) (by kernel_rfl) (by simp) ?_
      refine AllReadyH.cons (o := ⟨some 64, _, _, _, _, _⟩) rfl (fun KK hK => ?_) AllReadyH.nil
      refine step_append_lies _ (by rfl) _ _ _ (by rfl) (w.heap.size + 1) 172 i0 (.agg rowZ) 8 64 Try.underlying72 hi0 hz0 hz1 hz2 (by rfl) (by decide) _ L.length (rowsR L) (by rfl) HV.out.own ⟨nb1, 0, none⟩ 1 1 (rowC ((m.sym, m.id), ⟨m.code, m.price, m.qty⟩)).toList (by rfl) (by rfl) (news_blk (HV.out.nr nb1 rfl).1) (one_mem (one_row _)) (by decide) (by unfold maxLen; (try simp only [List.length_nil]); omega) (by (try simp only [List.length_nil]); omega) HV.out.le W9.heap.size rfl ?_
      intro g9 cap9 w9 hown9 hgrow9 hat9 hlt9
      replace HV := Lib.hid (HV.out.push hown9 hgrow9)
      clear hown9 hgrow9 hat9 hlt9
      refine hK.out _ _ ⟨HV.out.mb.cell 1 rfl, HV.out.mb.cell 4 rfl, HV.out.mb.cell 6 rfl, HV.out.mb.cell 7 rfl, HV.out.mb.cell 8 rfl⟩ (fun hHeld => ?_)
      clear hK; try clear KK
      try simp only [Act.put, List.setIfInBounds_toArray, List.set_cons_zero, List.set_cons_succ]
      refine wpAnyH_take (i := 21) (oi := ⟨some 65, _, _, _, _, _⟩) (v := (.pointer (some ⟨R, 0, none⟩))) rfl (by kernel_rfl) (by kernel_rfl) (by kernel_rfl) (fun _ _ _ h => h) (Or.inl ⟨by rfl, fun w hSw => by (try dsimp only at hSw); go_simp⟩) (by assumption) ?_
      simp only [Act.put, List.setIfInBounds_toArray, List.set_cons_zero, List.set_cons_succ]
      refine wpAnyH_take (i := 22) (oi := ⟨some 66, _, _, _, _, _⟩) (v := (.pointer (some ⟨R, 0, none⟩))) rfl (by kernel_rfl) (by kernel_rfl) (by kernel_rfl) (fun _ _ _ h => h) (Or.inl ⟨by rfl, fun w hSw => by (try dsimp only at hSw); go_simp⟩) (by assumption) ?_
      simp only [Act.put, List.setIfInBounds_toArray, List.set_cons_zero, List.set_cons_succ]
      refine wpAnyH_ready (rs := [23]) (by kernel_rfl) (by simp) ?_
      refine AllReadyH.cons (o := ⟨none, _, _, _, _, _⟩) rfl (fun KK hK => ?_) AllReadyH.nil
      have cR9 := (HR0.out.below HV.out.bel HR0.out.lt).cell 0 rfl
      have fR : w9.frozen? ⟨R, 0, none⟩ = false := (HR0.out.below HV.out.bel HR0.out.lt).free 0
      have HEND := Lib.hid (show RS N (w9.setCell ⟨R, 0, none⟩ (.slice (some ⟨g9, 0, none⟩) (L.length + 1) cap9)) R (L ++ [((m.sym, m.id), ⟨m.code, m.price, m.qty⟩)]) ∧ Chg w.heap.size R w (w9.setCell ⟨R, 0, none⟩ (.slice (some ⟨g9, 0, none⟩) (L.length + 1) cap9)) ∧ Blk (w9.setCell ⟨R, 0, none⟩ (.slice (some ⟨g9, 0, none⟩) (L.length + 1) cap9)) w.heap.size m.cells 66 from HV.out.done HR0.out hRN hN _ rfl)
      go_simp
      change KK _ (w9.setCell ⟨R, 0, none⟩ (.slice (some ⟨g9, 0, none⟩) (L.length + 1) cap9))
      generalize w9.setCell ⟨R, 0, none⟩ (.slice (some ⟨g9, 0, none⟩) (L.length + 1) cap9) = w10 at HEND ⊢
      refine hK.out _ _ ⟨HEND.out.2.2.cell 1 rfl, HEND.out.2.2.cell 4 rfl, HEND.out.2.2.cell 6 rfl, HEND.out.2.2.cell 7 rfl, HEND.out.2.2.cell 8 rfl⟩ (fun hHeld => ?_)
      clear hK; try clear KK
      refine wpAnyH_done (by kernel_rfl) ?_ _
      go_wp2_with fail
      go_ret
      exact ⟨by (show Ending.returned (.bool true) = _; rw [HE.out]), by rw [HE.out]; exact HEND.out.1, HEND.out.2.1⟩
  · have cR : W2.cell? ⟨R, 0, none⟩ = some (.slice (some ⟨g0, 0, none⟩) L.length cap0) := by rw [HA.out.bel.cell (p := ⟨R, 0, none⟩) HR0.out.lt]; exact HR0.out.cell 0 rfl
    go_simp
    clear cR
    refine hK.out _ _ ⟨HA.out.mb.cell 1 rfl, HA.out.mb.cell 4 rfl, HA.out.mb.cell 6 rfl, HA.out.mb.cell 7 rfl, HA.out.mb.cell 8 rfl⟩ (fun hHeld => ?_)
    clear hK; try clear KK
    try simp only [Act.put, List.setIfInBounds_toArray, List.set_cons_zero, List.set_cons_succ]
    refine wpAnyH_ready (rs := [1, 19]) (by kernel_rfl) (by simp) ?_
    refine AllReadyH.cons (o := ⟨some 45, _, _, _, _, _⟩) rfl (fun KK hK => ?_) (AllReadyH.cons (o := ⟨some 63, _, _, _, _, _⟩) rfl (fun KK hK => ?_) (AllReadyH.nil))
    · go_simp
      change KK _ (W2.alloc (.cells #[] 172))
      replace HA := Lib.hid HA.out.alloc_e
      generalize W2.alloc (.cells #[] 172) = W10 at HA ⊢
      generalize W2.heap.size = e1 at HA ⊢
      refine hK.out _ _ ⟨HA.out.mb.cell 1 rfl, HA.out.mb.cell 4 rfl, HA.out.mb.cell 6 rfl, HA.out.mb.cell 7 rfl, HA.out.mb.cell 8 rfl⟩ (fun hHeld => ?_)
      clear hK; try clear KK
      try simp only [Act.put, List.setIfInBounds_toArray, List.set_cons_zero, List.set_cons_succ]
      refine wpAnyH_ready (rs := [6, 19]) (by kernel_rfl) (by simp) ?_
      refine AllReadyH.cons (o := ⟨some 50, _, _, _, _, _⟩) rfl (fun KK hK => ?_) (AllReadyH.cons (o := ⟨some 63, _, _, _, _, _⟩) rfl (fun KK hK => ?_) (AllReadyH.nil))
      · refine step_append_lies _ (by rfl) _ _ _ (by rfl) (w.heap.size + 1) 172 i0 (.agg rowZ) 8 64 Try.underlying72 hi0 hz0 hz1 hz2 (by rfl) (by decide) _ 0 [] (by rfl) (HA.out.er e1 rfl) ⟨g0, 0, none⟩ L.length cap0 (rowsR L) (by rfl) (flat_len rowC 8 rowC_size L) (fun j u hu => (HA.out.bel.cell (p := (⟨g0, 0, none⟩ : Addr).add j) (by simp only [Addr.add]; split <;> exact hg0)).trans (HNEW.out j u hu)) HONE.out hLp (by unfold maxLen; omega) (by omega) HA.out.le W10.heap.size rfl ?_
        intro g cap W11 hown hgrow hat hlt
        rw [Nat.zero_add]
        have HV := Lib.hid (HA.out.grow hown hgrow hat)
        clear hown hgrow hat hlt HA
        refine hK.out _ _ ⟨HV.out.mb.cell 1 rfl, HV.out.mb.cell 4 rfl, HV.out.mb.cell 6 rfl, HV.out.mb.cell 7 rfl, HV.out.mb.cell 8 rfl⟩ (fun hHeld => ?_)
        clear hK; try clear KK
        try simp only [Act.put, List.setIfInBounds_toArray, List.set_cons_zero, List.set_cons_succ]
        refine wpAnyH_ready (rs := [19]) (by kernel_rfl) (by simp) ?_
        refine AllReadyH.cons (o := ⟨some 63, _, _, _, _, _⟩) rfl (fun KK hK => ?_) AllReadyH.nil
        go_simp
        change KK _ (W11.alloc (.cells (rowC ((m.sym, m.id), ⟨m.code, m.price, m.qty⟩)) 172))
        replace HV := Lib.hid HV.out.alloc_n
        generalize W11.alloc (.cells (rowC ((m.sym, m.id), ⟨m.code, m.price, m.qty⟩)) 172) = W12 at HV ⊢
        generalize W11.heap.size = nb1 at HV ⊢
        refine hK.out _ _ ⟨HV.out.mb.cell 1 rfl, HV.out.mb.cell 4 rfl, HV.out.mb.cell 6 rfl, HV.out.mb.cell 7 rfl, HV.out.mb.cell 8 rfl⟩ (fun hHeld => ?_)
        clear hK; try clear KK
        try simp only [Act.put, List.setIfInBounds_toArray, List.set_cons_zero, List.set_cons_succ]
        refine wpAnyH_ready (rs := [20]) (by kernel_rfl) (by simp) ?_
        refine AllReadyH.cons (o := ⟨some 64, _, _, _, _, _⟩) rfl (fun KK hK => ?_) AllReadyH.nil
        refine step_append_lies _ (by rfl) _ _ _ (by rfl) (w.heap.size + 1) 172 i0 (.agg rowZ) 8 64 Try.underlying72 hi0 hz0 hz1 hz2 (by rfl) (by decide) _ L.length (rowsR L) (by rfl) HV.out.own ⟨nb1, 0, none⟩ 1 1 (rowC ((m.sym, m.id), ⟨m.code, m.price, m.qty⟩)).toList (by rfl) (by rfl) (news_blk (HV.out.nr nb1 rfl).1) (one_mem (one_row _)) (by decide) (by unfold maxLen; (try simp only [List.length_nil]); omega) (by (try simp only [List.length_nil]); omega) HV.out.le W12.heap.size rfl ?_
        intro g9 cap9 w9 hown9 hgrow9 hat9 hlt9
        replace HV := Lib.hid (HV.out.push hown9 hgrow9)
        clear hown9 hgrow9 hat9 hlt9
        refine hK.out _ _ ⟨HV.out.mb.cell 1 rfl, HV.out.mb.cell 4 rfl, HV.out.mb.cell 6 rfl, HV.out.mb.cell 7 rfl, HV.out.mb.cell 8 rfl⟩ (fun hHeld => ?_)
        clear hK; try clear KK
        try simp only [Act.put, List.setIfInBounds_toArray, List.set_cons_zero, List.set_cons_succ]
        refine wpAnyH_take (i := 21) (oi := ⟨some 65, _, _, _, _, _⟩) (v := (.pointer (some ⟨R, 0, none⟩))) rfl (by kernel_rfl) (by kernel_rfl) (by kernel_rfl) (fun _ _ _ h => h) (Or.inl ⟨by rfl, fun w hSw => by (try dsimp only at hSw); go_simp⟩) (by assumption) ?_
        simp only [Act.put, List.setIfInBounds_toArray, List.set_cons_zero, List.set_cons_succ]
        refine wpAnyH_take (i := 22) (oi := ⟨some 66, _, _, _, _, _⟩) (v := (.pointer (some ⟨R, 0, none⟩))) rfl (by kernel_rfl) (by kernel_rfl) (by kernel_rfl) (fun _ _ _ h => h) (Or.inl ⟨by rfl, fun w hSw => by (try dsimp only at hSw); go_simp⟩) (by assumption) ?_
        simp only [Act.put, List.setIfInBounds_toArray, List.set_cons_zero, List.set_cons_succ]
        refine wpAnyH_ready (rs := [23]) (by kernel_rfl) (by simp) ?_
        refine AllReadyH.cons (o := ⟨none, _, _, _, _, _⟩) rfl (fun KK hK => ?_) AllReadyH.nil
        have cR9 := (HR0.out.below HV.out.bel HR0.out.lt).cell 0 rfl
        have fR : w9.frozen? ⟨R, 0, none⟩ = false := (HR0.out.below HV.out.bel HR0.out.lt).free 0
        have HEND := Lib.hid (show RS N (w9.setCell ⟨R, 0, none⟩ (.slice (some ⟨g9, 0, none⟩) (L.length + 1) cap9)) R (L ++ [((m.sym, m.id), ⟨m.code, m.price, m.qty⟩)]) ∧ Chg w.heap.size R w (w9.setCell ⟨R, 0, none⟩ (.slice (some ⟨g9, 0, none⟩) (L.length + 1) cap9)) ∧ Blk (w9.setCell ⟨R, 0, none⟩ (.slice (some ⟨g9, 0, none⟩) (L.length + 1) cap9)) w.heap.size m.cells 66 from HV.out.done HR0.out hRN hN _ rfl)
        go_simp
        change KK _ (w9.setCell ⟨R, 0, none⟩ (.slice (some ⟨g9, 0, none⟩) (L.length + 1) cap9))
        generalize w9.setCell ⟨R, 0, none⟩ (.slice (some ⟨g9, 0, none⟩) (L.length + 1) cap9) = w10 at HEND ⊢
        refine hK.out _ _ ⟨HEND.out.2.2.cell 1 rfl, HEND.out.2.2.cell 4 rfl, HEND.out.2.2.cell 6 rfl, HEND.out.2.2.cell 7 rfl, HEND.out.2.2.cell 8 rfl⟩ (fun hHeld => ?_)
        clear hK; try clear KK
        refine wpAnyH_done (by kernel_rfl) ?_ _
        go_wp2_with fail
        go_ret
        exact ⟨by (show Ending.returned (.bool true) = _; rw [HE.out]), by rw [HE.out]; exact HEND.out.1, HEND.out.2.1⟩
      · go_simp
        change KK _ (W10.alloc (.cells (rowC ((m.sym, m.id), ⟨m.code, m.price, m.qty⟩)) 172))
        replace HA := Lib.hid HA.out.alloc_n
        generalize W10.alloc (.cells (rowC ((m.sym, m.id), ⟨m.code, m.price, m.qty⟩)) 172) = W13 at HA ⊢
        generalize W10.heap.size = nb1 at HA ⊢
        refine hK.out _ _ ⟨HA.out.mb.cell 1 rfl, HA.out.mb.cell 4 rfl, HA.out.mb.cell 6 rfl, HA.out.mb.cell 7 rfl, HA.out.mb.cell 8 rfl⟩ (fun hHeld => ?_)
        clear hK; try clear KK
        try simp only [Act.put, List.setIfInBounds_toArray, List.set_cons_zero, List.set_cons_succ]
        refine wpAnyH_ready (rs := [6]) (by kernel_rfl) (by simp) ?_
        refine AllReadyH.cons (o := ⟨some 50, _, _, _, _, _⟩) rfl (fun KK hK => ?_) AllReadyH.nil
        refine step_append_lies _ (by rfl) _ _ _ (by rfl) (w.heap.size + 1) 172 i0 (.agg rowZ) 8 64 Try.underlying72 hi0 hz0 hz1 hz2 (by rfl) (by decide) _ 0 [] (by rfl) (HA.out.er e1 rfl) ⟨g0, 0, none⟩ L.length cap0 (rowsR L) (by rfl) (flat_len rowC 8 rowC_size L) (fun j u hu => (HA.out.bel.cell (p := (⟨g0, 0, none⟩ : Addr).add j) (by simp only [Addr.add]; split <;> exact hg0)).trans (HNEW.out j u hu)) HONE.out hLp (by unfold maxLen; omega) (by omega) HA.out.le W13.heap.size rfl ?_
        intro g cap W14 hown hgrow hat hlt
        rw [Nat.zero_add]
        have HV := Lib.hid (HA.out.grow hown hgrow hat)
        clear hown hgrow hat hlt HA
        refine hK.out _ _ ⟨HV.out.mb.cell 1 rfl, HV.out.mb.cell 4 rfl, HV.out.mb.cell 6 rfl, HV.out.mb.cell 7 rfl, HV.out.mb.cell 8 rfl⟩ (fun hHeld => ?_)
        clear hK; try clear KK
        try simp only [Act.put, List.setIfInBounds_toArray, List.set_cons_zero, List.set_cons_succ]
        refine wpAnyH_ready (rs := [20]) (by kernel_rfl) (by simp) ?_
        refine AllReadyH.cons (o := ⟨some 64, _, _, _, _, _⟩) rfl (fun KK hK => ?_) AllReadyH.nil
        refine step_append_lies _ (by rfl) _ _ _ (by rfl) (w.heap.size + 1) 172 i0 (.agg rowZ) 8 64 Try.underlying72 hi0 hz0 hz1 hz2 (by rfl) (by decide) _ L.length (rowsR L) (by rfl) HV.out.own ⟨nb1, 0, none⟩ 1 1 (rowC ((m.sym, m.id), ⟨m.code, m.price, m.qty⟩)).toList (by rfl) (by rfl) (news_blk (HV.out.nr nb1 rfl).1) (one_mem (one_row _)) (by decide) (by unfold maxLen; (try simp only [List.length_nil]); omega) (by (try simp only [List.length_nil]); omega) HV.out.le W14.heap.size rfl ?_
        intro g9 cap9 w9 hown9 hgrow9 hat9 hlt9
        replace HV := Lib.hid (HV.out.push hown9 hgrow9)
        clear hown9 hgrow9 hat9 hlt9
        refine hK.out _ _ ⟨HV.out.mb.cell 1 rfl, HV.out.mb.cell 4 rfl, HV.out.mb.cell 6 rfl, HV.out.mb.cell 7 rfl, HV.out.mb.cell 8 rfl⟩ (fun hHeld => ?_)
        clear hK; try clear KK
        try simp only [Act.put, List.setIfInBounds_toArray, List.set_cons_zero, List.set_cons_succ]
        refine wpAnyH_take (i := 21) (oi := ⟨some 65, _, _, _, _, _⟩) (v := (.pointer (some ⟨R, 0, none⟩))) rfl (by kernel_rfl) (by kernel_rfl) (by kernel_rfl) (fun _ _ _ h => h) (Or.inl ⟨by rfl, fun w hSw => by (try dsimp only at hSw); go_simp⟩) (by assumption) ?_
        simp only [Act.put, List.setIfInBounds_toArray, List.set_cons_zero, List.set_cons_succ]
        refine wpAnyH_take (i := 22) (oi := ⟨some 66, _, _, _, _, _⟩) (v := (.pointer (some ⟨R, 0, none⟩))) rfl (by kernel_rfl) (by kernel_rfl) (by kernel_rfl) (fun _ _ _ h => h) (Or.inl ⟨by rfl, fun w hSw => by (try dsimp only at hSw); go_simp⟩) (by assumption) ?_
        simp only [Act.put, List.setIfInBounds_toArray, List.set_cons_zero, List.set_cons_succ]
        refine wpAnyH_ready (rs := [23]) (by kernel_rfl) (by simp) ?_
        refine AllReadyH.cons (o := ⟨none, _, _, _, _, _⟩) rfl (fun KK hK => ?_) AllReadyH.nil
        have cR9 := (HR0.out.below HV.out.bel HR0.out.lt).cell 0 rfl
        have fR : w9.frozen? ⟨R, 0, none⟩ = false := (HR0.out.below HV.out.bel HR0.out.lt).free 0
        have HEND := Lib.hid (show RS N (w9.setCell ⟨R, 0, none⟩ (.slice (some ⟨g9, 0, none⟩) (L.length + 1) cap9)) R (L ++ [((m.sym, m.id), ⟨m.code, m.price, m.qty⟩)]) ∧ Chg w.heap.size R w (w9.setCell ⟨R, 0, none⟩ (.slice (some ⟨g9, 0, none⟩) (L.length + 1) cap9)) ∧ Blk (w9.setCell ⟨R, 0, none⟩ (.slice (some ⟨g9, 0, none⟩) (L.length + 1) cap9)) w.heap.size m.cells 66 from HV.out.done HR0.out hRN hN _ rfl)
        go_simp
        change KK _ (w9.setCell ⟨R, 0, none⟩ (.slice (some ⟨g9, 0, none⟩) (L.length + 1) cap9))
        generalize w9.setCell ⟨R, 0, none⟩ (.slice (some ⟨g9, 0, none⟩) (L.length + 1) cap9) = w10 at HEND ⊢
        refine hK.out _ _ ⟨HEND.out.2.2.cell 1 rfl, HEND.out.2.2.cell 4 rfl, HEND.out.2.2.cell 6 rfl, HEND.out.2.2.cell 7 rfl, HEND.out.2.2.cell 8 rfl⟩ (fun hHeld => ?_)
        clear hK; try clear KK
        refine wpAnyH_done (by kernel_rfl) ?_ _
        go_wp2_with fail
        go_ret
        exact ⟨by (show Ending.returned (.bool true) = _; rw [HE.out]), by rw [HE.out]; exact HEND.out.1, HEND.out.2.1⟩
    · go_simp
      change KK _ (W2.alloc (.cells (rowC ((m.sym, m.id), ⟨m.code, m.price, m.qty⟩)) 172))
      replace HA := Lib.hid HA.out.alloc_n
      generalize W2.alloc (.cells (rowC ((m.sym, m.id), ⟨m.code, m.price, m.qty⟩)) 172) = W15 at HA ⊢
      generalize W2.heap.size = nb1 at HA ⊢
      refine hK.out _ _ ⟨HA.out.mb.cell 1 rfl, HA.out.mb.cell 4 rfl, HA.out.mb.cell 6 rfl, HA.out.mb.cell 7 rfl, HA.out.mb.cell 8 rfl⟩ (fun hHeld => ?_)
      clear hK; try clear KK
      try simp only [Act.put, List.setIfInBounds_toArray, List.set_cons_zero, List.set_cons_succ]
      refine wpAnyH_ready (rs := [1]) (by kernel_rfl) (by simp) ?_
      refine AllReadyH.cons (o := ⟨some 45, _, _, _, _, _⟩) rfl (fun KK hK => ?_) AllReadyH.nil
      go_simp
      change KK _ (W15.alloc (.cells #[] 172))
      replace HA := Lib.hid HA.out.alloc_e
      generalize W15.alloc (.cells #[] 172) = W16 at HA ⊢
      generalize W15.heap.size = e1 at HA ⊢
      refine hK.out _ _ ⟨HA.out.mb.cell 1 rfl, HA.out.mb.cell 4 rfl, HA.out.mb.cell 6 rfl, HA.out.mb.cell 7 rfl, HA.out.mb.cell 8 rfl⟩ (fun hHeld => ?_)
      clear hK; try clear KK
      try simp only [Act.put, List.setIfInBounds_toArray, List.set_cons_zero, List.set_cons_succ]
      refine wpAnyH_ready (rs := [6]) (by kernel_rfl) (by simp) ?_
      refine AllReadyH.cons (o := ⟨some 50, _, _, _, _, _⟩) rfl (fun KK hK => ?_) AllReadyH.nil
      refine step_append_lies _ (by rfl) _ _ _ (by rfl) (w.heap.size + 1) 172 i0 (.agg rowZ) 8 64 Try.underlying72 hi0 hz0 hz1 hz2 (by rfl) (by decide) _ 0 [] (by rfl) (HA.out.er e1 rfl) ⟨g0, 0, none⟩ L.length cap0 (rowsR L) (by rfl) (flat_len rowC 8 rowC_size L) (fun j u hu => (HA.out.bel.cell (p := (⟨g0, 0, none⟩ : Addr).add j) (by simp only [Addr.add]; split <;> exact hg0)).trans (HNEW.out j u hu)) HONE.out hLp (by unfold maxLen; omega) (by omega) HA.out.le W16.heap.size rfl ?_
      intro g cap W17 hown hgrow hat hlt
      rw [Nat.zero_add]
      have HV := Lib.hid (HA.out.grow hown hgrow hat)
      clear hown hgrow hat hlt HA
      refine hK.out _ _ ⟨HV.out.mb.cell 1 rfl, HV.out.mb.cell 4 rfl, HV.out.mb.cell 6 rfl, HV.out.mb.cell 7 rfl, HV.out.mb.cell 8 rfl⟩ (fun hHeld => ?_)
      clear hK; try clear KK
      try simp only [Act.put, List.setIfInBounds_toArray, List.set_cons_zero, List.set_cons_succ]
      refine wpAnyH_ready (rs := [20]) (by kernel_rfl) (by simp) ?_
      refine AllReadyH.cons (o := ⟨some 64, _, _, _, _, _⟩) rfl (fun KK hK => ?_) AllReadyH.nil
      refine step_append_lies _ (by rfl) _ _ _ (by rfl) (w.heap.size + 1) 172 i0 (.agg rowZ) 8 64 Try.underlying72 hi0 hz0 hz1 hz2 (by rfl) (by decide) _ L.length (rowsR L) (by rfl) HV.out.own ⟨nb1, 0, none⟩ 1 1 (rowC ((m.sym, m.id), ⟨m.code, m.price, m.qty⟩)).toList (by rfl) (by rfl) (news_blk (HV.out.nr nb1 rfl).1) (one_mem (one_row _)) (by decide) (by unfold maxLen; (try simp only [List.length_nil]); omega) (by (try simp only [List.length_nil]); omega) HV.out.le W17.heap.size rfl ?_
      intro g9 cap9 w9 hown9 hgrow9 hat9 hlt9
      replace HV := Lib.hid (HV.out.push hown9 hgrow9)
      clear hown9 hgrow9 hat9 hlt9
      refine hK.out _ _ ⟨HV.out.mb.cell 1 rfl, HV.out.mb.cell 4 rfl, HV.out.mb.cell 6 rfl, HV.out.mb.cell 7 rfl, HV.out.mb.cell 8 rfl⟩ (fun hHeld => ?_)
      clear hK; try clear KK
      try simp only [Act.put, List.setIfInBounds_toArray, List.set_cons_zero, List.set_cons_succ]
      refine wpAnyH_take (i := 21) (oi := ⟨some 65, _, _, _, _, _⟩) (v := (.pointer (some ⟨R, 0, none⟩))) rfl (by kernel_rfl) (by kernel_rfl) (by kernel_rfl) (fun _ _ _ h => h) (Or.inl ⟨by rfl, fun w hSw => by (try dsimp only at hSw); go_simp⟩) (by assumption) ?_
      simp only [Act.put, List.setIfInBounds_toArray, List.set_cons_zero, List.set_cons_succ]
      refine wpAnyH_take (i := 22) (oi := ⟨some 66, _, _, _, _, _⟩) (v := (.pointer (some ⟨R, 0, none⟩))) rfl (by kernel_rfl) (by kernel_rfl) (by kernel_rfl) (fun _ _ _ h => h) (Or.inl ⟨by rfl, fun w hSw => by (try dsimp only at hSw); go_simp⟩) (by assumption) ?_
      simp only [Act.put, List.setIfInBounds_toArray, List.set_cons_zero, List.set_cons_succ]
      refine wpAnyH_ready (rs := [23]) (by kernel_rfl) (by simp) ?_
      refine AllReadyH.cons (o := ⟨none, _, _, _, _, _⟩) rfl (fun KK hK => ?_) AllReadyH.nil
      have cR9 := (HR0.out.below HV.out.bel HR0.out.lt).cell 0 rfl
      have fR : w9.frozen? ⟨R, 0, none⟩ = false := (HR0.out.below HV.out.bel HR0.out.lt).free 0
      have HEND := Lib.hid (show RS N (w9.setCell ⟨R, 0, none⟩ (.slice (some ⟨g9, 0, none⟩) (L.length + 1) cap9)) R (L ++ [((m.sym, m.id), ⟨m.code, m.price, m.qty⟩)]) ∧ Chg w.heap.size R w (w9.setCell ⟨R, 0, none⟩ (.slice (some ⟨g9, 0, none⟩) (L.length + 1) cap9)) ∧ Blk (w9.setCell ⟨R, 0, none⟩ (.slice (some ⟨g9, 0, none⟩) (L.length + 1) cap9)) w.heap.size m.cells 66 from HV.out.done HR0.out hRN hN _ rfl)
      go_simp
      change KK _ (w9.setCell ⟨R, 0, none⟩ (.slice (some ⟨g9, 0, none⟩) (L.length + 1) cap9))
      generalize w9.setCell ⟨R, 0, none⟩ (.slice (some ⟨g9, 0, none⟩) (L.length + 1) cap9) = w10 at HEND ⊢
      refine hK.out _ _ ⟨HEND.out.2.2.cell 1 rfl, HEND.out.2.2.cell 4 rfl, HEND.out.2.2.cell 6 rfl, HEND.out.2.2.cell 7 rfl, HEND.out.2.2.cell 8 rfl⟩ (fun hHeld => ?_)
      clear hK; try clear KK
      refine wpAnyH_done (by kernel_rfl) ?_ _
      go_wp2_with fail
      go_ret
      exact ⟨by (show Ending.returned (.bool true) = _; rw [HE.out]), by rw [HE.out]; exact HEND.out.1, HEND.out.2.1⟩
  · go_simp
    change KK _ (W2.alloc (.cells (rowC ((m.sym, m.id), ⟨m.code, m.price, m.qty⟩)) 172))
    replace HA := Lib.hid HA.out.alloc_n
    generalize W2.alloc (.cells (rowC ((m.sym, m.id), ⟨m.code, m.price, m.qty⟩)) 172) = W18 at HA ⊢
    generalize W2.heap.size = nb1 at HA ⊢
    refine hK.out _ _ ⟨HA.out.mb.cell 1 rfl, HA.out.mb.cell 4 rfl, HA.out.mb.cell 6 rfl, HA.out.mb.cell 7 rfl, HA.out.mb.cell 8 rfl⟩ (fun hHeld => ?_)
    clear hK; try clear KK
    try simp only [Act.put, List.setIfInBounds_toArray, List.set_cons_zero, List.set_cons_succ]
    refine wpAnyH_ready (rs := [1, 5]) (by kernel_rfl) (by simp) ?_
    refine AllReadyH.cons (o := ⟨some 45, _, _, _, _, _⟩) rfl (fun KK hK => ?_) (AllReadyH.cons (o := ⟨some 49, _, _, _, _, _⟩) rfl (fun KK hK => ?_) (AllReadyH.nil))
    · go_simp
      change KK _ (W18.alloc (.cells #[] 172))
      replace HA := Lib.hid HA.out.alloc_e
      generalize W18.alloc (.cells #[] 172) = W19 at HA ⊢
      generalize W18.heap.size = e1 at HA ⊢
      refine hK.out _ _ ⟨HA.out.mb.cell 1 rfl, HA.out.mb.cell 4 rfl, HA.out.mb.cell 6 rfl, HA.out.mb.cell 7 rfl, HA.out.mb.cell 8 rfl⟩ (fun hHeld => ?_)
      clear hK; try clear KK
      try simp only [Act.put, List.setIfInBounds_toArray, List.set_cons_zero, List.set_cons_succ]
      refine wpAnyH_ready (rs := [5]) (by kernel_rfl) (by simp) ?_
      refine AllReadyH.cons (o := ⟨some 49, _, _, _, _, _⟩) rfl (fun KK hK => ?_) AllReadyH.nil
      have cR : W19.cell? ⟨R, 0, none⟩ = some (.slice (some ⟨g0, 0, none⟩) L.length cap0) := by rw [HA.out.bel.cell (p := ⟨R, 0, none⟩) HR0.out.lt]; exact HR0.out.cell 0 rfl
      go_simp
      clear cR
      refine hK.out _ _ ⟨HA.out.mb.cell 1 rfl, HA.out.mb.cell 4 rfl, HA.out.mb.cell 6 rfl, HA.out.mb.cell 7 rfl, HA.out.mb.cell 8 rfl⟩ (fun hHeld => ?_)
      clear hK; try clear KK
      try simp only [Act.put, List.setIfInBounds_toArray, List.set_cons_zero, List.set_cons_succ]
      refine wpAnyH_ready (rs := [6]) (by kernel_rfl) (by simp) ?_
      refine AllReadyH.cons (o := ⟨some 50, _, _, _, _, _⟩) rfl (fun KK hK => ?_) AllReadyH.nil
      refine step_append_lies _ (by rfl) _ _ _ (by rfl) (w.heap.size + 1) 172 i0 (.agg rowZ) 8 64 Try.underlying72 hi0 hz0 hz1 hz2 (by rfl) (by decide) _ 0 [] (by rfl) (HA.out.er e1 rfl) ⟨g0, 0, none⟩ L.length cap0 (rowsR L) (by rfl) (flat_len rowC 8 rowC_size L) (fun j u hu => (HA.out.bel.cell (p := (⟨g0, 0, none⟩ : Addr).add j) (by simp only [Addr.add]; split <;> exact hg0)).trans (HNEW.out j u hu)) HONE.out hLp (by unfold maxLen; omega) (by omega) HA.out.le W19.heap.size rfl ?_
      intro g cap W20 hown hgrow hat hlt
      rw [Nat.zero_add]
      have HV := Lib.hid (HA.out.grow hown hgrow hat)
      clear hown hgrow hat hlt HA
      refine hK.out _ _ ⟨HV.out.mb.cell 1 rfl, HV.out.mb.cell 4 rfl, HV.out.mb.cell 6 rfl, HV.out.mb.cell 7 rfl, HV.out.mb.cell 8 rfl⟩ (fun hHeld => ?_)
      clear hK; try clear KK
      try simp only [Act.put, List.setIfInBounds_toArray, List.set_cons_zero, List.set_cons_succ]
      refine wpAnyH_ready (rs := [20]) (by kernel_rfl) (by simp) ?_
      refine AllReadyH.cons (o := ⟨some 64, _, _, _, _, _⟩) rfl (fun KK hK => ?_) AllReadyH.nil
      refine step_append_lies _ (by rfl) _ _ _ (by rfl) (w.heap.size + 1) 172 i0 (.agg rowZ) 8 64 Try.underlying72 hi0 hz0 hz1 hz2 (by rfl) (by decide) _ L.length (rowsR L) (by rfl) HV.out.own ⟨nb1, 0, none⟩ 1 1 (rowC ((m.sym, m.id), ⟨m.code, m.price, m.qty⟩)).toList (by rfl) (by rfl) (news_blk (HV.out.nr nb1 rfl).1) (one_mem (one_row _)) (by decide) (by unfold maxLen; (try simp only [List.length_nil]); omega) (by (try simp only [List.length_nil]); omega) HV.out.le W20.heap.size rfl ?_
      intro g9 cap9 w9 hown9 hgrow9 hat9 hlt9
      replace HV := Lib.hid (HV.out.push hown9 hgrow9)
      clear hown9 hgrow9 hat9 hlt9
      refine hK.out _ _ ⟨HV.out.mb.cell 1 rfl, HV.out.mb.cell 4 rfl, HV.out.mb.cell 6 rfl, HV.out.mb.cell 7 rfl, HV.out.mb.cell 8 rfl⟩ (fun hHeld => ?_)
      clear hK; try clear KK
      try simp only [Act.put, List.setIfInBounds_toArray, List.set_cons_zero, List.set_cons_succ]
      refine wpAnyH_take (i := 21) (oi := ⟨some 65, _, _, _, _, _⟩) (v := (.pointer (some ⟨R, 0, none⟩))) rfl (by kernel_rfl) (by kernel_rfl) (by kernel_rfl) (fun _ _ _ h => h) (Or.inl ⟨by rfl, fun w hSw => by (try dsimp only at hSw); go_simp⟩) (by assumption) ?_
      simp only [Act.put, List.setIfInBounds_toArray, List.set_cons_zero, List.set_cons_succ]
      refine wpAnyH_take (i := 22) (oi := ⟨some 66, _, _, _, _, _⟩) (v := (.pointer (some ⟨R, 0, none⟩))) rfl (by kernel_rfl) (by kernel_rfl) (by kernel_rfl) (fun _ _ _ h => h) (Or.inl ⟨by rfl, fun w hSw => by (try dsimp only at hSw); go_simp⟩) (by assumption) ?_
      simp only [Act.put, List.setIfInBounds_toArray, List.set_cons_zero, List.set_cons_succ]
      refine wpAnyH_ready (rs := [23]) (by kernel_rfl) (by simp) ?_
      refine AllReadyH.cons (o := ⟨none, _, _, _, _, _⟩) rfl (fun KK hK => ?_) AllReadyH.nil
      have cR9 := (HR0.out.below HV.out.bel HR0.out.lt).cell 0 rfl
      have fR : w9.frozen? ⟨R, 0, none⟩ = false := (HR0.out.below HV.out.bel HR0.out.lt).free 0
      have HEND := Lib.hid (show RS N (w9.setCell ⟨R, 0, none⟩ (.slice (some ⟨g9, 0, none⟩) (L.length + 1) cap9)) R (L ++ [((m.sym, m.id), ⟨m.code, m.price, m.qty⟩)]) ∧ Chg w.heap.size R w (w9.setCell ⟨R, 0, none⟩ (.slice (some ⟨g9, 0, none⟩) (L.length + 1) cap9)) ∧ Blk (w9.setCell ⟨R, 0, none⟩ (.slice (some ⟨g9, 0, none⟩) (L.length + 1) cap9)) w.heap.size m.cells 66 from HV.out.done HR0.out hRN hN _ rfl)
      go_simp
      change KK _ (w9.setCell ⟨R, 0, none⟩ (.slice (some ⟨g9, 0, none⟩) (L.length + 1) cap9))
      generalize w9.setCell ⟨R, 0, none⟩ (.slice (some ⟨g9, 0, none⟩) (L.length + 1) cap9) = w10 at HEND ⊢
      refine hK.out _ _ ⟨HEND.out.2.2.cell 1 rfl, HEND.out.2.2.cell 4 rfl, HEND.out.2.2.cell 6 rfl, HEND.out.2.2.cell 7 rfl, HEND.out.2.2.cell 8 rfl⟩ (fun hHeld => ?_)
      clear hK; try clear KK
      refine wpAnyH_done (by kernel_rfl) ?_ _
      go_wp2_with fail
      go_ret
      exact ⟨by (show Ending.returned (.bool true) = _; rw [HE.out]), by rw [HE.out]; exact HEND.out.1, HEND.out.2.1⟩
    · have cR : W18.cell? ⟨R, 0, none⟩ = some (.slice (some ⟨g0, 0, none⟩) L.length cap0) := by rw [HA.out.bel.cell (p := ⟨R, 0, none⟩) HR0.out.lt]; exact HR0.out.cell 0 rfl
      go_simp
      clear cR
      refine hK.out _ _ ⟨HA.out.mb.cell 1 rfl, HA.out.mb.cell 4 rfl, HA.out.mb.cell 6 rfl, HA.out.mb.cell 7 rfl, HA.out.mb.cell 8 rfl⟩ (fun hHeld => ?_)
      clear hK; try clear KK
      try simp only [Act.put, List.setIfInBounds_toArray, List.set_cons_zero, List.set_cons_succ]
      refine wpAnyH_ready (rs := [1]) (by kernel_rfl) (by simp) ?_
      refine AllReadyH.cons (o := ⟨some 45, _, _, _, _, _⟩) rfl (fun KK hK => ?_) AllReadyH.nil
      go_simp
      change KK _ (W18.alloc (.cells #[] 172))
      replace HA := Lib.hid HA.out.alloc_e
      generalize W18.alloc (.cells #[] 172) = W21 at HA ⊢
      generalize W18.heap.size = e1 at HA ⊢
      refine hK.out _ _ ⟨HA.out.mb.cell 1 rfl, HA.out.mb.cell 4 rfl, HA.out.mb.cell 6 rfl, HA.out.mb.cell 7 rfl, HA.out.mb.cell 8 rfl⟩ (fun hHeld => ?_)
      clear hK; try clear KK
      try simp only [Act.put, List.setIfInBounds_toArray, List.set_cons_zero, List.set_cons_succ]
      refine wpAnyH_ready (rs := [6]) (by kernel_rfl) (by simp) ?_
      refine AllReadyH.cons (o := ⟨some 50, _, _, _, _, _⟩) rfl (fun KK hK => ?_) AllReadyH.nil
      refine step_append_lies _ (by rfl) _ _ _ (by rfl) (w.heap.size + 1) 172 i0 (.agg rowZ) 8 64 Try.underlying72 hi0 hz0 hz1 hz2 (by rfl) (by decide) _ 0 [] (by rfl) (HA.out.er e1 rfl) ⟨g0, 0, none⟩ L.length cap0 (rowsR L) (by rfl) (flat_len rowC 8 rowC_size L) (fun j u hu => (HA.out.bel.cell (p := (⟨g0, 0, none⟩ : Addr).add j) (by simp only [Addr.add]; split <;> exact hg0)).trans (HNEW.out j u hu)) HONE.out hLp (by unfold maxLen; omega) (by omega) HA.out.le W21.heap.size rfl ?_
      intro g cap W22 hown hgrow hat hlt
      rw [Nat.zero_add]
      have HV := Lib.hid (HA.out.grow hown hgrow hat)
      clear hown hgrow hat hlt HA
      refine hK.out _ _ ⟨HV.out.mb.cell 1 rfl, HV.out.mb.cell 4 rfl, HV.out.mb.cell 6 rfl, HV.out.mb.cell 7 rfl, HV.out.mb.cell 8 rfl⟩ (fun hHeld => ?_)
      clear hK; try clear KK
      try simp only [Act.put, List.setIfInBounds_toArray, List.set_cons_zero, List.set_cons_succ]
      refine wpAnyH_ready (rs := [20]) (by kernel_rfl) (by simp) ?_
      refine AllReadyH.cons (o := ⟨some 64, _, _, _, _, _⟩) rfl (fun KK hK => ?_) AllReadyH.nil
      refine step_append_lies _ (by rfl) _ _ _ (by rfl) (w.heap.size + 1) 172 i0 (.agg rowZ) 8 64 Try.underlying72 hi0 hz0 hz1 hz2 (by rfl) (by decide) _ L.length (rowsR L) (by rfl) HV.out.own ⟨nb1, 0, none⟩ 1 1 (rowC ((m.sym, m.id), ⟨m.code, m.price, m.qty⟩)).toList (by rfl) (by rfl) (news_blk (HV.out.nr nb1 rfl).1) (one_mem (one_row _)) (by decide) (by unfold maxLen; (try simp only [List.length_nil]); omega) (by (try simp only [List.length_nil]); omega) HV.out.le W22.heap.size rfl ?_
      intro g9 cap9 w9 hown9 hgrow9 hat9 hlt9
      replace HV := Lib.hid (HV.out.push hown9 hgrow9)
      clear hown9 hgrow9 hat9 hlt9
      refine hK.out _ _ ⟨HV.out.mb.cell 1 rfl, HV.out.mb.cell 4 rfl, HV.out.mb.cell 6 rfl, HV.out.mb.cell 7 rfl, HV.out.mb.cell 8 rfl⟩ (fun hHeld => ?_)
      clear hK; try clear KK
      try simp only [Act.put, List.setIfInBounds_toArray, List.set_cons_zero, List.set_cons_succ]
      refine wpAnyH_take (i := 21) (oi := ⟨some 65, _, _, _, _, _⟩) (v := (.pointer (some ⟨R, 0, none⟩))) rfl (by kernel_rfl) (by kernel_rfl) (by kernel_rfl) (fun _ _ _ h => h) (Or.inl ⟨by rfl, fun w hSw => by (try dsimp only at hSw); go_simp⟩) (by assumption) ?_
      simp only [Act.put, List.setIfInBounds_toArray, List.set_cons_zero, List.set_cons_succ]
      refine wpAnyH_take (i := 22) (oi := ⟨some 66, _, _, _, _, _⟩) (v := (.pointer (some ⟨R, 0, none⟩))) rfl (by kernel_rfl) (by kernel_rfl) (by kernel_rfl) (fun _ _ _ h => h) (Or.inl ⟨by rfl, fun w hSw => by (try dsimp only at hSw); go_simp⟩) (by assumption) ?_
      simp only [Act.put, List.setIfInBounds_toArray, List.set_cons_zero, List.set_cons_succ]
      refine wpAnyH_ready (rs := [23]) (by kernel_rfl) (by simp) ?_
      refine AllReadyH.cons (o := ⟨none, _, _, _, _, _⟩) rfl (fun KK hK => ?_) AllReadyH.nil
      have cR9 := (HR0.out.below HV.out.bel HR0.out.lt).cell 0 rfl
      have fR : w9.frozen? ⟨R, 0, none⟩ = false := (HR0.out.below HV.out.bel HR0.out.lt).free 0
      have HEND := Lib.hid (show RS N (w9.setCell ⟨R, 0, none⟩ (.slice (some ⟨g9, 0, none⟩) (L.length + 1) cap9)) R (L ++ [((m.sym, m.id), ⟨m.code, m.price, m.qty⟩)]) ∧ Chg w.heap.size R w (w9.setCell ⟨R, 0, none⟩ (.slice (some ⟨g9, 0, none⟩) (L.length + 1) cap9)) ∧ Blk (w9.setCell ⟨R, 0, none⟩ (.slice (some ⟨g9, 0, none⟩) (L.length + 1) cap9)) w.heap.size m.cells 66 from HV.out.done HR0.out hRN hN _ rfl)
      go_simp
      change KK _ (w9.setCell ⟨R, 0, none⟩ (.slice (some ⟨g9, 0, none⟩) (L.length + 1) cap9))
      generalize w9.setCell ⟨R, 0, none⟩ (.slice (some ⟨g9, 0, none⟩) (L.length + 1) cap9) = w10 at HEND ⊢
      refine hK.out _ _ ⟨HEND.out.2.2.cell 1 rfl, HEND.out.2.2.cell 4 rfl, HEND.out.2.2.cell 6 rfl, HEND.out.2.2.cell 7 rfl, HEND.out.2.2.cell 8 rfl⟩ (fun hHeld => ?_)
      clear hK; try clear KK
      refine wpAnyH_done (by kernel_rfl) ?_ _
      go_wp2_with fail
      go_ret
      exact ⟨by (show Ending.returned (.bool true) = _; rw [HE.out]), by rw [HE.out]; exact HEND.out.1, HEND.out.2.1⟩
set_option maxRecDepth 20000 in
set_option maxHeartbeats 4000000 in
theorem ack_none0 (N R : Nat) (m : Msg) (w : World) (h : RS N w R []) (hN : N ≤ w.heap.size) (h1 : m.kind = 1) (hq : ¬ m.qty < 1) (hc : m.code = 0 ∨ m.code = 1) (c0 : (m.code != 0) = false)
    (hp1 : ¬ m.price < 1) (hp2 : ¬ 1099511627776 < m.price) :
    Calls Try.prog 38 #[.pointer (some ⟨R, 0, none⟩), .agg m.cells] w (RPutIs N R [] m w) := by
  have hk : mget (m.sym, m.id) ([] : List (Key × Rest)) = none := rfl
  have g1 : (m.kind == 1) = true := by simp [h1]
  have HE := Lib.hid (show putF ([] : List (Key × Rest)) m = (([] : List (Key × Rest)) ++ [((m.sym, m.id), ⟨m.code, m.price, m.qty⟩)], true) by
    have : 1 ≤ m.price ∧ m.price ≤ 1099511627776 := by omega
    simp [putF, h1, hk, hq, hc, this, mput_new hk])
  have HFE : findF ([] : List (Key × Rest)) (m.sym, m.id) = -1 := by simp [findF, hk]
  clear h1 hc hk
  obtain ⟨v0, hR0, hRN, hrow0, hnil0⟩ := id h
  have hv0 := hnil0 rfl
  subst hv0
  have HR0 := Lib.hid hR0
  obtain ⟨i0, hi0, hz0, hz1, hz2⟩ := info_parts infoRow
  clear hR0 hrow0 hnil0
  have HS := Lib.hid (rb_start m h hN)
  clear h
  have m0 : (w.alloc (.cells m.cells 66)).cell? ⟨w.heap.size, 0, none⟩ = some (.int .i64 m.kind) := HS.out.mb.cell 0 rfl
  have m1 : (w.alloc (.cells m.cells 66)).cell? ⟨w.heap.size, 1, none⟩ = some (.int .i64 m.sym) := HS.out.mb.cell 1 rfl
  have m4 : (w.alloc (.cells m.cells 66)).cell? ⟨w.heap.size, 4, none⟩ = some (.int .i64 m.id) := HS.out.mb.cell 4 rfl
  have m5 : (w.alloc (.cells m.cells 66)).cell? ⟨w.heap.size, 5, none⟩ = some (.int .i64 m.wth) := HS.out.mb.cell 5 rfl
  have m6 : (w.alloc (.cells m.cells 66)).cell? ⟨w.heap.size, 6, none⟩ = some (.int .i64 m.price) := HS.out.mb.cell 6 rfl
  have m7 : (w.alloc (.cells m.cells 66)).cell? ⟨w.heap.size, 7, none⟩ = some (.int .i64 m.qty) := HS.out.mb.cell 7 rfl
  have m8 : (w.alloc (.cells m.cells 66)).cell? ⟨w.heap.size, 8, none⟩ = some (.int .i64 m.code) := HS.out.mb.cell 8 rfl
  go_enter Try.func38, Try.ntmps38
  go_wp2_with fail
  refine (find_any N R _ m.sym m.id _ HS.out.rs).mono ?_
  rintro e w2 ⟨rfl, rfl⟩
  rw [HFE]
  clear m0 m1 m4 m5 m6 m7 m8
  go_upto_region 5 with fail
  have HA := Lib.hid (show AK w m ((m.sym, m.id), ⟨m.code, m.price, m.qty⟩) (w.alloc (.cells m.cells 66)) none none from ⟨(Below.refl _ _).alloc (Nat.le_refl _) _, Blk.new _ _ _ _ rfl, fun b hb => (by cases hb), fun b hb => (by cases hb)⟩)
  generalize w.alloc (.cells m.cells 66) = W1 at HS HA ⊢
  refine wp_region_held_drew (S := (fun w' => w'.cell? ⟨w.heap.size, 1, none⟩ = some (.int .i64 m.sym) ∧ w'.cell? ⟨w.heap.size, 4, none⟩ = some (.int .i64 m.id) ∧ w'.cell? ⟨w.heap.size, 6, none⟩ = some (.int .i64 m.price) ∧ w'.cell? ⟨w.heap.size, 7, none⟩ = some (.int .i64 m.qty) ∧ w'.cell? ⟨w.heap.size, 8, none⟩ = some (.int .i64 m.code))) (by kernel_rfl) ⟨HS.out.mb.cell 1 rfl, HS.out.mb.cell 4 rfl, HS.out.mb.cell 6 rfl, HS.out.mb.cell 7 rfl, HS.out.mb.cell 8 rfl⟩ (fun hHeld => ?_)
  clear HS
  replace HA := Lib.hid HA.out.drew
  generalize W1.drew = W2 at HA hHeld ⊢
  refine wpAnyH_take (i := 0) (oi := ⟨some 44, _, _, _, _, _⟩) (v := (.pointer (some ⟨R, 0, none⟩))) rfl (by kernel_rfl) (by kernel_rfl) (by kernel_rfl) (fun _ _ _ h => h) (Or.inl ⟨by rfl, fun w hSw => by (try dsimp only at hSw); go_simp⟩) (by assumption) ?_
  simp only [Act.put, List.setIfInBounds_toArray, List.set_cons_zero, List.set_cons_succ]
  refine wpAnyH_take (i := 2) (oi := ⟨some 46, _, _, _, _, _⟩) (v := (.pointer (some ⟨R, 0, none⟩))) rfl (by kernel_rfl) (by kernel_rfl) (by kernel_rfl) (fun _ _ _ h => h) (Or.inl ⟨by rfl, fun w hSw => by (try dsimp only at hSw); go_simp⟩) (by assumption) ?_
  simp only [Act.put, List.setIfInBounds_toArray, List.set_cons_zero, List.set_cons_succ]
  refine wpAnyH_take (i := 3) (oi := ⟨some 47, _, _, _, _, _⟩) (v := (.pointer (some ⟨R, 0, none⟩))) rfl (by kernel_rfl) (by kernel_rfl) (by kernel_rfl) (fun _ _ _ h => h) (Or.inl ⟨by rfl, fun w hSw => by (try dsimp only at hSw); go_simp⟩) (by assumption) ?_
  simp only [Act.put, List.setIfInBounds_toArray, List.set_cons_zero, List.set_cons_succ]
  refine wpAnyH_take (i := 4) (oi := ⟨some 48, _, _, _, _, _⟩) (v := (.pointer (some ⟨R, 0, none⟩))) rfl (by kernel_rfl) (by kernel_rfl) (by kernel_rfl) (fun _ _ _ h => h) (Or.inl ⟨by rfl, fun w hSw => by (try dsimp only at hSw); go_simp⟩) (by assumption) ?_
  simp only [Act.put, List.setIfInBounds_toArray, List.set_cons_zero, List.set_cons_succ]
  refine wpAnyH_take (i := 7) (oi := ⟨some 51, _, _, _, _, _⟩) (v := (.pointer (some ⟨w.heap.size, 1, none⟩))) rfl (by kernel_rfl) (by kernel_rfl) (by kernel_rfl) (fun _ _ _ h => h) (Or.inl ⟨by rfl, fun w hSw => by (try dsimp only at hSw); go_simp⟩) (by assumption) ?_
  simp only [Act.put, List.setIfInBounds_toArray, List.set_cons_zero, List.set_cons_succ]
  refine wpAnyH_take (i := 8) (oi := ⟨some 52, _, _, _, _, _⟩) (v := (.int .i64 m.sym)) rfl (by kernel_rfl) (by kernel_rfl) (by kernel_rfl) (fun _ _ _ h => h) (Or.inl ⟨by rfl, fun w hSw => by (try dsimp only at hSw); go_simp⟩) (by assumption) ?_
  simp only [Act.put, List.setIfInBounds_toArray, List.set_cons_zero, List.set_cons_succ]
  refine wpAnyH_take (i := 9) (oi := ⟨some 53, _, _, _, _, _⟩) (v := (.pointer (some ⟨w.heap.size, 4, none⟩))) rfl (by kernel_rfl) (by kernel_rfl) (by kernel_rfl) (fun _ _ _ h => h) (Or.inl ⟨by rfl, fun w hSw => by (try dsimp only at hSw); go_simp⟩) (by assumption) ?_
  simp only [Act.put, List.setIfInBounds_toArray, List.set_cons_zero, List.set_cons_succ]
  refine wpAnyH_take (i := 10) (oi := ⟨some 54, _, _, _, _, _⟩) (v := (.int .i64 m.id)) rfl (by kernel_rfl) (by kernel_rfl) (by kernel_rfl) (fun _ _ _ h => h) (Or.inl ⟨by rfl, fun w hSw => by (try dsimp only at hSw); go_simp⟩) (by assumption) ?_
  simp only [Act.put, List.setIfInBounds_toArray, List.set_cons_zero, List.set_cons_succ]
  refine wpAnyH_take (i := 11) (oi := ⟨some 55, _, _, _, _, _⟩) (v := (.pointer (some ⟨w.heap.size, 8, none⟩))) rfl (by kernel_rfl) (by kernel_rfl) (by kernel_rfl) (fun _ _ _ h => h) (Or.inl ⟨by rfl, fun w hSw => by (try dsimp only at hSw); go_simp⟩) (by assumption) ?_
  simp only [Act.put, List.setIfInBounds_toArray, List.set_cons_zero, List.set_cons_succ]
  refine wpAnyH_take (i := 12) (oi := ⟨some 56, _, _, _, _, _⟩) (v := (.int .i64 m.code)) rfl (by kernel_rfl) (by kernel_rfl) (by kernel_rfl) (fun _ _ _ h => h) (Or.inl ⟨by rfl, fun w hSw => by (try dsimp only at hSw); go_simp⟩) (by assumption) ?_
  simp only [Act.put, List.setIfInBounds_toArray, List.set_cons_zero, List.set_cons_succ]
  refine wpAnyH_take (i := 13) (oi := ⟨some 57, _, _, _, _, _⟩) (v := (.pointer (some ⟨w.heap.size, 6, none⟩))) rfl (by kernel_rfl) (by kernel_rfl) (by kernel_rfl) (fun _ _ _ h => h) (Or.inl ⟨by rfl, fun w hSw => by (try dsimp only at hSw); go_simp⟩) (by assumption) ?_
  simp only [Act.put, List.setIfInBounds_toArray, List.set_cons_zero, List.set_cons_succ]
  refine wpAnyH_take (i := 14) (oi := ⟨some 58, _, _, _, _, _⟩) (v := (.int .i64 m.price)) rfl (by kernel_rfl) (by kernel_rfl) (by kernel_rfl) (fun _ _ _ h => h) (Or.inl ⟨by rfl, fun w hSw => by (try dsimp only at hSw); go_simp⟩) (by assumption) ?_
  simp only [Act.put, List.setIfInBounds_toArray, List.set_cons_zero, List.set_cons_succ]
  refine wpAnyH_take (i := 15) (oi := ⟨some 59, _, _, _, _, _⟩) (v := (.pointer (some ⟨w.heap.size, 7, none⟩))) rfl (by kernel_rfl) (by kernel_rfl) (by kernel_rfl) (fun _ _ _ h => h) (Or.inl ⟨by rfl, fun w hSw => by (try dsimp only at hSw); go_simp⟩) (by assumption) ?_
  simp only [Act.put, List.setIfInBounds_toArray, List.set_cons_zero, List.set_cons_succ]
  refine wpAnyH_take (i := 16) (oi := ⟨some 60, _, _, _, _, _⟩) (v := (.int .i64 m.qty)) rfl (by kernel_rfl) (by kernel_rfl) (by kernel_rfl) (fun _ _ _ h => h) (Or.inl ⟨by rfl, fun w hSw => by (try dsimp only at hSw); go_simp⟩) (by assumption) ?_
  simp only [Act.put, List.setIfInBounds_toArray, List.set_cons_zero, List.set_cons_succ]
  refine wpAnyH_take (i := 17) (oi := ⟨some 61, _, _, _, _, _⟩) (v := (.agg #[.int .i64 m.id, .int .i64 0, .int .i64 m.code, .int .i64 m.price, .int .i64 m.qty, .int .i64 0, .int .i64 0])) rfl (by kernel_rfl) (by kernel_rfl) (by kernel_rfl) (fun _ _ _ h => h) (Or.inl ⟨by rfl, fun w hSw => by (try dsimp only at hSw); go_simp⟩) (by assumption) ?_
  simp only [Act.put, List.setIfInBounds_toArray, List.set_cons_zero, List.set_cons_succ]
  refine wpAnyH_take (i := 18) (oi := ⟨some 62, _, _, _, _, _⟩) (v := (.agg #[.int .i64 m.sym, .int .i64 m.id, .int .i64 0, .int .i64 m.code, .int .i64 m.price, .int .i64 m.qty, .int .i64 0, .int .i64 0])) rfl (by kernel_rfl) (by kernel_rfl) (by kernel_rfl) (fun _ _ _ h => h) (Or.inl ⟨by rfl, fun w hSw => by (try dsimp only at hSw); go_simp⟩) (by assumption) ?_
  simp only [Act.put, List.setIfInBounds_toArray, List.set_cons_zero, List.set_cons_succ]
  refine wpAnyH_ready (rs := [1, 5, 19]) (by kernel_rfl) (by simp) ?_
  refine AllReadyH.cons (o := ⟨some 45, _, _, _, _, _⟩) rfl (fun KK hK => ?_) (AllReadyH.cons (o := ⟨some 49, _, _, _, _, _⟩) rfl (fun KK hK => ?_) (AllReadyH.cons (o := ⟨some 63, _, _, _, _, _⟩) rfl (fun KK hK => ?_) (AllReadyH.nil)))
  · go_simp
    change KK _ (W2.alloc (.cells #[] 172))
    replace HA := Lib.hid HA.out.alloc_e
    generalize W2.alloc (.cells #[] 172) = W3 at HA ⊢
    generalize W2.heap.size = e1 at HA ⊢
    refine hK.out _ _ ⟨HA.out.mb.cell 1 rfl, HA.out.mb.cell 4 rfl, HA.out.mb.cell 6 rfl, HA.out.mb.cell 7 rfl, HA.out.mb.cell 8 rfl⟩ (fun hHeld => ?_)
    clear hK; try clear KK
    try simp only [Act.put, List.setIfInBounds_toArray, List.set_cons_zero, List.set_cons_succ]
    refine wpAnyH_ready (rs := [5, 19]) (by kernel_rfl) (by simp) ?_
    refine AllReadyH.cons (o := ⟨some 49, _, _, _, _, _⟩) rfl (fun KK hK => ?_) (AllReadyH.cons (o := ⟨some 63, _, _, _, _, _⟩) rfl (fun KK hK => ?_) (AllReadyH.nil))
    · have cR : W3.cell? ⟨R, 0, none⟩ = some (.slice none 0 0) := by rw [HA.out.bel.cell (p := ⟨R, 0, none⟩) HR0.out.lt]; exact HR0.out.cell 0 rfl
      go_simp
      clear cR
      refine hK.out _ _ ⟨HA.out.mb.cell 1 rfl, HA.out.mb.cell 4 rfl, HA.out.mb.cell 6 rfl, HA.out.mb.cell 7 rfl, HA.out.mb.cell 8 rfl⟩ (fun hHeld => ?_)
      clear hK; try clear KK
      try simp only [Act.put, List.setIfInBounds_toArray, List.set_cons_zero, List.set_cons_succ]
      refine wpAnyH_ready (rs := [6, 19]) (by kernel_rfl) (by simp) ?_
      refine AllReadyH.cons (o := ⟨some 50, _, _, _, _, _⟩) rfl (fun KK hK => ?_) (AllReadyH.cons (o := ⟨some 63, _, _, _, _, _⟩) rfl (fun KK hK => ?_) (AllReadyH.nil))
      · refine step_append_none (by rfl) _ _ _ (by rfl) (w.heap.size + 1) 172 i0 8 Try.underlying72 hi0 _ 0 [] (by rfl) (HA.out.er e1 rfl) (by rfl) ?_
        have HV := Lib.hid HA.out.still
        clear HA
        refine hK.out _ _ ⟨HV.out.mb.cell 1 rfl, HV.out.mb.cell 4 rfl, HV.out.mb.cell 6 rfl, HV.out.mb.cell 7 rfl, HV.out.mb.cell 8 rfl⟩ (fun hHeld => ?_)
        clear hK; try clear KK
        try simp only [Act.put, List.setIfInBounds_toArray, List.set_cons_zero, List.set_cons_succ]
        refine wpAnyH_ready (rs := [19]) (by kernel_rfl) (by simp) ?_
        refine AllReadyH.cons (o := ⟨some 63, _, _, _, _, _⟩) rfl (fun KK hK => ?_) AllReadyH.nil
        go_simp
        change KK _ (W3.alloc (.cells (rowC ((m.sym, m.id), ⟨m.code, m.price, m.qty⟩)) 172))
        replace HV := Lib.hid HV.out.alloc_n
        generalize W3.alloc (.cells (rowC ((m.sym, m.id), ⟨m.code, m.price, m.qty⟩)) 172) = W4 at HV ⊢
        generalize W3.heap.size = nb1 at HV ⊢
        refine hK.out _ _ ⟨HV.out.mb.cell 1 rfl, HV.out.mb.cell 4 rfl, HV.out.mb.cell 6 rfl, HV.out.mb.cell 7 rfl, HV.out.mb.cell 8 rfl⟩ (fun hHeld => ?_)
        clear hK; try clear KK
        try simp only [Act.put, List.setIfInBounds_toArray, List.set_cons_zero, List.set_cons_succ]
        refine wpAnyH_ready (rs := [20]) (by kernel_rfl) (by simp) ?_
        refine AllReadyH.cons (o := ⟨some 64, _, _, _, _, _⟩) rfl (fun KK hK => ?_) AllReadyH.nil
        refine step_append_lies _ (by rfl) _ _ _ (by rfl) (w.heap.size + 1) 172 i0 (.agg rowZ) 8 64 Try.underlying72 hi0 hz0 hz1 hz2 (by rfl) (by decide) _ ([] : List (Key × Rest)).length (rowsR ([] : List (Key × Rest))) (by rfl) HV.out.own ⟨nb1, 0, none⟩ 1 1 (rowC ((m.sym, m.id), ⟨m.code, m.price, m.qty⟩)).toList (by rfl) (by rfl) (news_blk (HV.out.nr nb1 rfl).1) (one_mem (one_row _)) (by decide) (by unfold maxLen; (try simp only [List.length_nil]); omega) (by (try simp only [List.length_nil]); omega) HV.out.le W4.heap.size rfl ?_
        intro g9 cap9 w9 hown9 hgrow9 hat9 hlt9
        replace HV := Lib.hid (HV.out.push hown9 hgrow9)
        clear hown9 hgrow9 hat9 hlt9
        refine hK.out _ _ ⟨HV.out.mb.cell 1 rfl, HV.out.mb.cell 4 rfl, HV.out.mb.cell 6 rfl, HV.out.mb.cell 7 rfl, HV.out.mb.cell 8 rfl⟩ (fun hHeld => ?_)
        clear hK; try clear KK
        try simp only [Act.put, List.setIfInBounds_toArray, List.set_cons_zero, List.set_cons_succ]
        refine wpAnyH_take (i := 21) (oi := ⟨some 65, _, _, _, _, _⟩) (v := (.pointer (some ⟨R, 0, none⟩))) rfl (by kernel_rfl) (by kernel_rfl) (by kernel_rfl) (fun _ _ _ h => h) (Or.inl ⟨by rfl, fun w hSw => by (try dsimp only at hSw); go_simp⟩) (by assumption) ?_
        simp only [Act.put, List.setIfInBounds_toArray, List.set_cons_zero, List.set_cons_succ]
        refine wpAnyH_take (i := 22) (oi := ⟨some 66, _, _, _, _, _⟩) (v := (.pointer (some ⟨R, 0, none⟩))) rfl (by kernel_rfl) (by kernel_rfl) (by kernel_rfl) (fun _ _ _ h => h) (Or.inl ⟨by rfl, fun w hSw => by (try dsimp only at hSw); go_simp⟩) (by assumption) ?_
        simp only [Act.put, List.setIfInBounds_toArray, List.set_cons_zero, List.set_cons_succ]
        refine wpAnyH_ready (rs := [23]) (by kernel_rfl) (by simp) ?_
        refine AllReadyH.cons (o := ⟨none, _, _, _, _, _⟩) rfl (fun KK hK => ?_) AllReadyH.nil
        have cR9 := (HR0.out.below HV.out.bel HR0.out.lt).cell 0 rfl
        have fR : w9.frozen? ⟨R, 0, none⟩ = false := (HR0.out.below HV.out.bel HR0.out.lt).free 0
        have HEND := Lib.hid (show RS N (w9.setCell ⟨R, 0, none⟩ (.slice (some ⟨g9, 0, none⟩) (([] : List (Key × Rest)).length + 1) cap9)) R (([] : List (Key × Rest)) ++ [((m.sym, m.id), ⟨m.code, m.price, m.qty⟩)]) ∧ Chg w.heap.size R w (w9.setCell ⟨R, 0, none⟩ (.slice (some ⟨g9, 0, none⟩) (([] : List (Key × Rest)).length + 1) cap9)) ∧ Blk (w9.setCell ⟨R, 0, none⟩ (.slice (some ⟨g9, 0, none⟩) (([] : List (Key × Rest)).length + 1) cap9)) w.heap.size m.cells 66 from HV.out.done HR0.out hRN hN _ rfl)
        go_simp
        change KK _ (w9.setCell ⟨R, 0, none⟩ (.slice (some ⟨g9, 0, none⟩) (([] : List (Key × Rest)).length + 1) cap9))
        generalize w9.setCell ⟨R, 0, none⟩ (.slice (some ⟨g9, 0, none⟩) (([] : List (Key × Rest)).length + 1) cap9) = w10 at HEND ⊢
        refine hK.out _ _ ⟨HEND.out.2.2.cell 1 rfl, HEND.out.2.2.cell 4 rfl, HEND.out.2.2.cell 6 rfl, HEND.out.2.2.cell 7 rfl, HEND.out.2.2.cell 8 rfl⟩ (fun hHeld => ?_)
        clear hK; try clear KK
        refine wpAnyH_done (by kernel_rfl) ?_ _
        go_wp2_with fail
        go_ret
        exact ⟨by (show Ending.returned (.bool true) = _; rw [HE.out]), by rw [HE.out]; exact HEND.out.1, HEND.out.2.1⟩
      · go_simp
        change KK _ (W3.alloc (.cells (rowC ((m.sym, m.id), ⟨m.code, m.price, m.qty⟩)) 172))
        replace HA := Lib.hid HA.out.alloc_n
        generalize W3.alloc (.cells (rowC ((m.sym, m.id), ⟨m.code, m.price, m.qty⟩)) 172) = W5 at HA ⊢
        generalize W3.heap.size = nb1 at HA ⊢
        refine hK.out _ _ ⟨HA.out.mb.cell 1 rfl, HA.out.mb.cell 4 rfl, HA.out.mb.cell 6 rfl, HA.out.mb.cell 7 rfl, HA.out.mb.cell 8 rfl⟩ (fun hHeld => ?_)
        clear hK; try clear KK
        try simp only [Act.put, List.setIfInBounds_toArray, List.set_cons_zero, List.set_cons_succ]
        refine wpAnyH_ready (rs := [6]) (by kernel_rfl) (by simp) ?_
        refine AllReadyH.cons (o := ⟨some 50, _, _, _, _, _⟩) rfl (fun KK hK => ?_) AllReadyH.nil
        refine step_append_none (by rfl) _ _ _ (by rfl) (w.heap.size + 1) 172 i0 8 Try.underlying72 hi0 _ 0 [] (by rfl) (HA.out.er e1 rfl) (by rfl) ?_
        have HV := Lib.hid HA.out.still
        clear HA
        refine hK.out _ _ ⟨HV.out.mb.cell 1 rfl, HV.out.mb.cell 4 rfl, HV.out.mb.cell 6 rfl, HV.out.mb.cell 7 rfl, HV.out.mb.cell 8 rfl⟩ (fun hHeld => ?_)
        clear hK; try clear KK
        try simp only [Act.put, List.setIfInBounds_toArray, List.set_cons_zero, List.set_cons_succ]
        refine wpAnyH_ready (rs := [20]) (by kernel_rfl) (by simp) ?_
        refine AllReadyH.cons (o := ⟨some 64, _, _, _, _, _⟩) rfl (fun KK hK => ?_) AllReadyH.nil
        refine step_append_lies _ (by rfl) _ _ _ (by rfl) (w.heap.size + 1) 172 i0 (.agg rowZ) 8 64 Try.underlying72 hi0 hz0 hz1 hz2 (by rfl) (by decide) _ ([] : List (Key × Rest)).length (rowsR ([] : List (Key × Rest))) (by rfl) HV.out.own ⟨nb1, 0, none⟩ 1 1 (rowC ((m.sym, m.id), ⟨m.code, m.price, m.qty⟩)).toList (by rfl) (by rfl) (news_blk (HV.out.nr nb1 rfl).1) (one_mem (one_row _)) (by decide) (by unfold maxLen; (try simp only [List.length_nil]); omega) (by (try simp only [List.length_nil]); omega) HV.out.le W5.heap.size rfl ?_
        intro g9 cap9 w9 hown9 hgrow9 hat9 hlt9
        replace HV := Lib.hid (HV.out.push hown9 hgrow9)
        clear hown9 hgrow9 hat9 hlt9
        refine hK.out _ _ ⟨HV.out.mb.cell 1 rfl, HV.out.mb.cell 4 rfl, HV.out.mb.cell 6 rfl, HV.out.mb.cell 7 rfl, HV.out.mb.cell 8 rfl⟩ (fun hHeld => ?_)
        clear hK; try clear KK
        try simp only [Act.put, List.setIfInBounds_toArray, List.set_cons_zero, List.set_cons_succ]
        refine wpAnyH_take (i := 21) (oi := ⟨some 65, _, _, _, _, _⟩) (v := (.pointer (some ⟨R, 0, none⟩))) rfl (by kernel_rfl) (by kernel_rfl) (by kernel_rfl) (fun _ _ _ h => h) (Or.inl ⟨by rfl, fun w hSw => by (try dsimp only at hSw); go_simp⟩) (by assumption) ?_
        simp only [Act.put, List.setIfInBounds_toArray, List.set_cons_zero, List.set_cons_succ]
        refine wpAnyH_take (i := 22) (oi := ⟨some 66, _, _, _, _, _⟩) (v := (.pointer (some ⟨R, 0, none⟩))) rfl (by kernel_rfl) (by kernel_rfl) (by kernel_rfl) (fun _ _ _ h => h) (Or.inl ⟨by rfl, fun w hSw => by (try dsimp only at hSw); go_simp⟩) (by assumption) ?_
        simp only [Act.put, List.setIfInBounds_toArray, List.set_cons_zero, List.set_cons_succ]
        refine wpAnyH_ready (rs := [23]) (by kernel_rfl) (by simp) ?_
        refine AllReadyH.cons (o := ⟨none, _, _, _, _, _⟩) rfl (fun KK hK => ?_) AllReadyH.nil
        have cR9 := (HR0.out.below HV.out.bel HR0.out.lt).cell 0 rfl
        have fR : w9.frozen? ⟨R, 0, none⟩ = false := (HR0.out.below HV.out.bel HR0.out.lt).free 0
        have HEND := Lib.hid (show RS N (w9.setCell ⟨R, 0, none⟩ (.slice (some ⟨g9, 0, none⟩) (([] : List (Key × Rest)).length + 1) cap9)) R (([] : List (Key × Rest)) ++ [((m.sym, m.id), ⟨m.code, m.price, m.qty⟩)]) ∧ Chg w.heap.size R w (w9.setCell ⟨R, 0, none⟩ (.slice (some ⟨g9, 0, none⟩) (([] : List (Key × Rest)).length + 1) cap9)) ∧ Blk (w9.setCell ⟨R, 0, none⟩ (.slice (some ⟨g9, 0, none⟩) (([] : List (Key × Rest)).length + 1) cap9)) w.heap.size m.cells 66 from HV.out.done HR0.out hRN hN _ rfl)
        go_simp
        change KK _ (w9.setCell ⟨R, 0, none⟩ (.slice (some ⟨g9, 0, none⟩) (([] : List (Key × Rest)).length + 1) cap9))
        generalize w9.setCell ⟨R, 0, none⟩ (.slice (some ⟨g9, 0, none⟩) (([] : List (Key × Rest)).length + 1) cap9) = w10 at HEND ⊢
        refine hK.out _ _ ⟨HEND.out.2.2.cell 1 rfl, HEND.out.2.2.cell 4 rfl, HEND.out.2.2.cell 6 rfl, HEND.out.2.2.cell 7 rfl, HEND.out.2.2.cell 8 rfl⟩ (fun hHeld => ?_)
        clear hK; try clear KK
        refine wpAnyH_done (by kernel_rfl) ?_ _
        go_wp2_with fail
        go_ret
        exact ⟨by (show Ending.returned (.bool true) = _; rw [HE.out]), by rw [HE.out]; exact HEND.out.1, HEND.out.2.1⟩
    · go_simp
      change KK _ (W3.alloc (.cells (rowC ((m.sym, m.id), ⟨m.code, m.price, m.qty⟩)) 172))
      replace HA := Lib.hid HA.out.alloc_n
      generalize W3.alloc (.cells (rowC ((m.sym, m.id), ⟨m.code, m.price, m.qty⟩)) 172) = W6 at HA ⊢
      generalize W3.heap.size = nb1 at HA ⊢
      refine hK.out _ _ ⟨HA.out.mb.cell 1 rfl, HA.out.mb.cell 4 rfl, HA.out.mb.cell 6 rfl, HA.out.mb.cell 7 rfl, HA.out.mb.cell 8 rfl⟩ (fun hHeld => ?_)
      clear hK; try clear KK
      try simp only [Act.put, List.setIfInBounds_toArray, List.set_cons_zero, List.set_cons_succ]
      refine wpAnyH_ready (rs := [5]) (by kernel_rfl) (by simp) ?_
      refine AllReadyH.cons (o := ⟨some 49, _, _, _, _, _⟩) rfl (fun KK hK => ?_) AllReadyH.nil
      have cR : W6.cell? ⟨R, 0, none⟩ = some (.slice none 0 0) := by rw [HA.out.bel.cell (p := ⟨R, 0, none⟩) HR0.out.lt]; exact HR0.out.cell 0 rfl
      go_simp
      clear cR
      refine hK.out _ _ ⟨HA.out.mb.cell 1 rfl, HA.out.mb.cell 4 rfl, HA.out.mb.cell 6 rfl, HA.out.mb.cell 7 rfl, HA.out.mb.cell 8 rfl⟩ (fun hHeld => ?_)
      clear hK; try clear KK
      try simp only [Act.put, List.setIfInBounds_toArray, List.set_cons_zero, List.set_cons_succ]
      refine wpAnyH_ready (rs := [6]) (by kernel_rfl) (by simp) ?_
      refine AllReadyH.cons (o := ⟨some 50, _, _, _, _, _⟩) rfl (fun KK hK => ?_) AllReadyH.nil
      refine step_append_none (by rfl) _ _ _ (by rfl) (w.heap.size + 1) 172 i0 8 Try.underlying72 hi0 _ 0 [] (by rfl) (HA.out.er e1 rfl) (by rfl) ?_
      have HV := Lib.hid HA.out.still
      clear HA
      refine hK.out _ _ ⟨HV.out.mb.cell 1 rfl, HV.out.mb.cell 4 rfl, HV.out.mb.cell 6 rfl, HV.out.mb.cell 7 rfl, HV.out.mb.cell 8 rfl⟩ (fun hHeld => ?_)
      clear hK; try clear KK
      try simp only [Act.put, List.setIfInBounds_toArray, List.set_cons_zero, List.set_cons_succ]
      refine wpAnyH_ready (rs := [20]) (by kernel_rfl) (by simp) ?_
      refine AllReadyH.cons (o := ⟨some 64, _, _, _, _, _⟩) rfl (fun KK hK => ?_) AllReadyH.nil
      refine step_append_lies _ (by rfl) _ _ _ (by rfl) (w.heap.size + 1) 172 i0 (.agg rowZ) 8 64 Try.underlying72 hi0 hz0 hz1 hz2 (by rfl) (by decide) _ ([] : List (Key × Rest)).length (rowsR ([] : List (Key × Rest))) (by rfl) HV.out.own ⟨nb1, 0, none⟩ 1 1 (rowC ((m.sym, m.id), ⟨m.code, m.price, m.qty⟩)).toList (by rfl) (by rfl) (news_blk (HV.out.nr nb1 rfl).1) (one_mem (one_row _)) (by decide) (by unfold maxLen; (try simp only [List.length_nil]); omega) (by (try simp only [List.length_nil]); omega) HV.out.le W6.heap.size rfl ?_
      intro g9 cap9 w9 hown9 hgrow9 hat9 hlt9
      replace HV := Lib.hid (HV.out.push hown9 hgrow9)
      clear hown9 hgrow9 hat9 hlt9
      refine hK.out _ _ ⟨HV.out.mb.cell 1 rfl, HV.out.mb.cell 4 rfl, HV.out.mb.cell 6 rfl, HV.out.mb.cell 7 rfl, HV.out.mb.cell 8 rfl⟩ (fun hHeld => ?_)
      clear hK; try clear KK
      try simp only [Act.put, List.setIfInBounds_toArray, List.set_cons_zero, List.set_cons_succ]
      refine wpAnyH_take (i := 21) (oi := ⟨some 65, _, _, _, _, _⟩) (v := (.pointer (some ⟨R, 0, none⟩))) rfl (by kernel_rfl) (by kernel_rfl) (by kernel_rfl) (fun _ _ _ h => h) (Or.inl ⟨by rfl, fun w hSw => by (try dsimp only at hSw); go_simp⟩) (by assumption) ?_
      simp only [Act.put, List.setIfInBounds_toArray, List.set_cons_zero, List.set_cons_succ]
      refine wpAnyH_take (i := 22) (oi := ⟨some 66, _, _, _, _, _⟩) (v := (.pointer (some ⟨R, 0, none⟩))) rfl (by kernel_rfl) (by kernel_rfl) (by kernel_rfl) (fun _ _ _ h => h) (Or.inl ⟨by rfl, fun w hSw => by (try dsimp only at hSw); go_simp⟩) (by assumption) ?_
      simp only [Act.put, List.setIfInBounds_toArray, List.set_cons_zero, List.set_cons_succ]
      refine wpAnyH_ready (rs := [23]) (by kernel_rfl) (by simp) ?_
      refine AllReadyH.cons (o := ⟨none, _, _, _, _, _⟩) rfl (fun KK hK => ?_) AllReadyH.nil
      have cR9 := (HR0.out.below HV.out.bel HR0.out.lt).cell 0 rfl
      have fR : w9.frozen? ⟨R, 0, none⟩ = false := (HR0.out.below HV.out.bel HR0.out.lt).free 0
      have HEND := Lib.hid (show RS N (w9.setCell ⟨R, 0, none⟩ (.slice (some ⟨g9, 0, none⟩) (([] : List (Key × Rest)).length + 1) cap9)) R (([] : List (Key × Rest)) ++ [((m.sym, m.id), ⟨m.code, m.price, m.qty⟩)]) ∧ Chg w.heap.size R w (w9.setCell ⟨R, 0, none⟩ (.slice (some ⟨g9, 0, none⟩) (([] : List (Key × Rest)).length + 1) cap9)) ∧ Blk (w9.setCell ⟨R, 0, none⟩ (.slice (some ⟨g9, 0, none⟩) (([] : List (Key × Rest)).length + 1) cap9)) w.heap.size m.cells 66 from HV.out.done HR0.out hRN hN _ rfl)
      go_simp
      change KK _ (w9.setCell ⟨R, 0, none⟩ (.slice (some ⟨g9, 0, none⟩) (([] : List (Key × Rest)).length + 1) cap9))
      generalize w9.setCell ⟨R, 0, none⟩ (.slice (some ⟨g9, 0, none⟩) (([] : List (Key × Rest)).length + 1) cap9) = w10 at HEND ⊢
      refine hK.out _ _ ⟨HEND.out.2.2.cell 1 rfl, HEND.out.2.2.cell 4 rfl, HEND.out.2.2.cell 6 rfl, HEND.out.2.2.cell 7 rfl, HEND.out.2.2.cell 8 rfl⟩ (fun hHeld => ?_)
      clear hK; try clear KK
      refine wpAnyH_done (by kernel_rfl) ?_ _
      go_wp2_with fail
      go_ret
      exact ⟨by (show Ending.returned (.bool true) = _; rw [HE.out]), by rw [HE.out]; exact HEND.out.1, HEND.out.2.1⟩
  · have cR : W2.cell? ⟨R, 0, none⟩ = some (.slice none 0 0) := by rw [HA.out.bel.cell (p := ⟨R, 0, none⟩) HR0.out.lt]; exact HR0.out.cell 0 rfl
    go_simp
    clear cR
    refine hK.out _ _ ⟨HA.out.mb.cell 1 rfl, HA.out.mb.cell 4 rfl, HA.out.mb.cell 6 rfl, HA.out.mb.cell 7 rfl, HA.out.mb.cell 8 rfl⟩ (fun hHeld => ?_)
    clear hK; try clear KK
    try simp only [Act.put, List.setIfInBounds_toArray, List.set_cons_zero, List.set_cons_succ]
    refine wpAnyH_ready (rs := [1, 19]) (by kernel_rfl) (by simp) ?_
    refine AllReadyH.cons (o := ⟨some 45, _, _, _, _, _⟩) rfl (fun KK hK => ?_) (AllReadyH.cons (o := ⟨some 63, _, _, _, _, _⟩) rfl (fun KK hK => ?_) (AllReadyH.nil))
    · go_simp
      change KK _ (W2.alloc (.cells #[] 172))
      replace HA := Lib.hid HA.out.alloc_e
      generalize W2.alloc (.cells #[] 172) = W7 at HA ⊢
      generalize W2.heap.size = e1 at HA ⊢
      refine hK.out _ _ ⟨HA.out.mb.cell 1 rfl, HA.out.mb.cell 4 rfl, HA.out.mb.cell 6 rfl, HA.out.mb.cell 7 rfl, HA.out.mb.cell 8 rfl⟩ (fun hHeld => ?_)
      clear hK; try clear KK
      try simp only [Act.put, List.setIfInBounds_toArray, List.set_cons_zero, List.set_cons_succ]
      refine wpAnyH_ready (rs := [6, 19]) (by kernel_rfl) (by simp) ?_
      refine AllReadyH.cons (o := ⟨some 50, _, _, _, _, _⟩) rfl (fun KK hK => ?_) (AllReadyH.cons (o := ⟨some 63, _, _, _, _, _⟩) rfl (fun KK hK => ?_) (AllReadyH.nil))
      · refine step_append_none (by rfl) _ _ _ (by rfl) (w.heap.size + 1) 172 i0 8 Try.underlying72 hi0 _ 0 [] (by rfl) (HA.out.er e1 rfl) (by rfl) ?_
        have HV := Lib.hid HA.out.still
        clear HA
        refine hK.out _ _ ⟨HV.out.mb.cell 1 rfl, HV.out.mb.cell 4 rfl, HV.out.mb.cell 6 rfl, HV.out.mb.cell 7 rfl, HV.out.mb.cell 8 rfl⟩ (fun hHeld => ?_)
        clear hK; try clear KK
        try simp only [Act.put, List.setIfInBounds_toArray, List.set_cons_zero, List.set_cons_succ]
        refine wpAnyH_ready (rs := [19]) (by kernel_rfl) (by simp) ?_
        refine AllReadyH.cons (o := ⟨some 63, _, _, _, _, _⟩) rfl (fun KK hK => ?_) AllReadyH.nil
        go_simp
        change KK _ (W7.alloc (.cells (rowC ((m.sym, m.id), ⟨m.code, m.price, m.qty⟩)) 172))
        replace HV := Lib.hid HV.out.alloc_n
        generalize W7.alloc (.cells (rowC ((m.sym, m.id), ⟨m.code, m.price, m.qty⟩)) 172) = W8 at HV ⊢
        generalize W7.heap.size = nb1 at HV ⊢
        refine hK.out _ _ ⟨HV.out.mb.cell 1 rfl, HV.out.mb.cell 4 rfl, HV.out.mb.cell 6 rfl, HV.out.mb.cell 7 rfl, HV.out.mb.cell 8 rfl⟩ (fun hHeld => ?_)
        clear hK; try clear KK
        try simp only [Act.put, List.setIfInBounds_toArray, List.set_cons_zero, List.set_cons_succ]
        refine wpAnyH_ready (rs := [20]) (by kernel_rfl) (by simp) ?_
        refine AllReadyH.cons (o := ⟨some 64, _, _, _, _, _⟩) rfl (fun KK hK => ?_) AllReadyH.nil
        refine step_append_lies _ (by rfl) _ _ _ (by rfl) (w.heap.size + 1) 172 i0 (.agg rowZ) 8 64 Try.underlying72 hi0 hz0 hz1 hz2 (by rfl) (by decide) _ ([] : List (Key × Rest)).length (rowsR ([] : List (Key × Rest))) (by rfl) HV.out.own ⟨nb1, 0, none⟩ 1 1 (rowC ((m.sym, m.id), ⟨m.code, m.price, m.qty⟩)).toList (by rfl) (by rfl) (news_blk (HV.out.nr nb1 rfl).1) (one_mem (one_row _)) (by decide) (by unfold maxLen; (try simp only [List.length_nil]); omega) (by (try simp only [List.length_nil]); omega) HV.out.le W8.heap.size rfl ?_
        intro g9 cap9 w9 hown9 hgrow9 hat9 hlt9
        replace HV := Lib.hid (HV.out.push hown9 hgrow9)
        clear hown9 hgrow9 hat9 hlt9
        refine hK.out _ _ ⟨HV.out.mb.cell 1 rfl, HV.out.mb.cell 4 rfl, HV.out.mb.cell 6 rfl, HV.out.mb.cell 7 rfl, HV.out.mb.cell 8 rfl⟩ (fun hHeld => ?_)
        clear hK; try clear KK
        try simp only [Act.put, List.setIfInBounds_toArray, List.set_cons_zero, List.set_cons_succ]
        refine wpAnyH_take (i := 21) (oi := ⟨some 65, _, _, _, _, _⟩) (v := (.pointer (some ⟨R, 0, none⟩))) rfl (by kernel_rfl) (by kernel_rfl) (by kernel_rfl) (fun _ _ _ h => h) (Or.inl ⟨by rfl, fun w hSw => by (try dsimp only at hSw); go_simp⟩) (by assumption) ?_
        simp only [Act.put, List.setIfInBounds_toArray, List.set_cons_zero, List.set_cons_succ]
        refine wpAnyH_take (i := 22) (oi := ⟨some 66, _, _, _, _, _⟩) (v := (.pointer (some ⟨R, 0, none⟩))) rfl (by kernel_rfl) (by kernel_rfl) (by kernel_rfl) (fun _ _ _ h => h) (Or.inl ⟨by rfl, fun w hSw => by (try dsimp only at hSw); go_simp⟩) (by assumption) ?_
        simp only [Act.put, List.setIfInBounds_toArray, List.set_cons_zero, List.set_cons_succ]
        refine wpAnyH_ready (rs := [23]) (by kernel_rfl) (by simp) ?_
        refine AllReadyH.cons (o := ⟨none, _, _, _, _, _⟩) rfl (fun KK hK => ?_) AllReadyH.nil
        have cR9 := (HR0.out.below HV.out.bel HR0.out.lt).cell 0 rfl
        have fR : w9.frozen? ⟨R, 0, none⟩ = false := (HR0.out.below HV.out.bel HR0.out.lt).free 0
        have HEND := Lib.hid (show RS N (w9.setCell ⟨R, 0, none⟩ (.slice (some ⟨g9, 0, none⟩) (([] : List (Key × Rest)).length + 1) cap9)) R (([] : List (Key × Rest)) ++ [((m.sym, m.id), ⟨m.code, m.price, m.qty⟩)]) ∧ Chg w.heap.size R w (w9.setCell ⟨R, 0, none⟩ (.slice (some ⟨g9, 0, none⟩) (([] : List (Key × Rest)).length + 1) cap9)) ∧ Blk (w9.setCell ⟨R, 0, none⟩ (.slice (some ⟨g9, 0, none⟩) (([] : List (Key × Rest)).length + 1) cap9)) w.heap.size m.cells 66 from HV.out.done HR0.out hRN hN _ rfl)
        go_simp
        change KK _ (w9.setCell ⟨R, 0, none⟩ (.slice (some ⟨g9, 0, none⟩) (([] : List (Key × Rest)).length + 1) cap9))
        generalize w9.setCell ⟨R, 0, none⟩ (.slice (some ⟨g9, 0, none⟩) (([] : List (Key × Rest)).length + 1) cap9) = w10 at HEND ⊢
        refine hK.out _ _ ⟨HEND.out.2.2.cell 1 rfl, HEND.out.2.2.cell 4 rfl, HEND.out.2.2.cell 6 rfl, HEND.out.2.2.cell 7 rfl, HEND.out.2.2.cell 8 rfl⟩ (fun hHeld => ?_)
        clear hK; try clear KK
        refine wpAnyH_done (by kernel_rfl) ?_ _
        go_wp2_with fail
        go_ret
        exact ⟨by (show Ending.returned (.bool true) = _; rw [HE.out]), by rw [HE.out]; exact HEND.out.1, HEND.out.2.1⟩
      · go_simp
        change KK _ (W7.alloc (.cells (rowC ((m.sym, m.id), ⟨m.code, m.price, m.qty⟩)) 172))
        replace HA := Lib.hid HA.out.alloc_n
        generalize W7.alloc (.cells (rowC ((m.sym, m.id), ⟨m.code, m.price, m.qty⟩)) 172) = W9 at HA ⊢
        generalize W7.heap.size = nb1 at HA ⊢
        refine hK.out _ _ ⟨HA.out.mb.cell 1 rfl, HA.out.mb.cell 4 rfl, HA.out.mb.cell 6 rfl, HA.out.mb.cell 7 rfl, HA.out.mb.cell 8 rfl⟩ (fun hHeld => ?_)
        clear hK; try clear KK
        try simp only [Act.put, List.setIfInBounds_toArray, List.set_cons_zero, List.set_cons_succ]
        refine wpAnyH_ready (rs := [6]) (by kernel_rfl) (by simp) ?_
        refine AllReadyH.cons (o := ⟨some 50, _, _, _, _, _⟩) rfl (fun KK hK => ?_) AllReadyH.nil
        refine step_append_none (by rfl) _ _ _ (by rfl) (w.heap.size + 1) 172 i0 8 Try.underlying72 hi0 _ 0 [] (by rfl) (HA.out.er e1 rfl) (by rfl) ?_
        have HV := Lib.hid HA.out.still
        clear HA
        refine hK.out _ _ ⟨HV.out.mb.cell 1 rfl, HV.out.mb.cell 4 rfl, HV.out.mb.cell 6 rfl, HV.out.mb.cell 7 rfl, HV.out.mb.cell 8 rfl⟩ (fun hHeld => ?_)
        clear hK; try clear KK
        try simp only [Act.put, List.setIfInBounds_toArray, List.set_cons_zero, List.set_cons_succ]
        refine wpAnyH_ready (rs := [20]) (by kernel_rfl) (by simp) ?_
        refine AllReadyH.cons (o := ⟨some 64, _, _, _, _, _⟩) rfl (fun KK hK => ?_) AllReadyH.nil
        refine step_append_lies _ (by rfl) _ _ _ (by rfl) (w.heap.size + 1) 172 i0 (.agg rowZ) 8 64 Try.underlying72 hi0 hz0 hz1 hz2 (by rfl) (by decide) _ ([] : List (Key × Rest)).length (rowsR ([] : List (Key × Rest))) (by rfl) HV.out.own ⟨nb1, 0, none⟩ 1 1 (rowC ((m.sym, m.id), ⟨m.code, m.price, m.qty⟩)).toList (by rfl) (by rfl) (news_blk (HV.out.nr nb1 rfl).1) (one_mem (one_row _)) (by decide) (by unfold maxLen; (try simp only [List.length_nil]); omega) (by (try simp only [List.length_nil]); omega) HV.out.le W9.heap.size rfl ?_
        intro g9 cap9 w9 hown9 hgrow9 hat9 hlt9
        replace HV := Lib.hid (HV.out.push hown9 hgrow9)
        clear hown9 hgrow9 hat9 hlt9
        refine hK.out _ _ ⟨HV.out.mb.cell 1 rfl, HV.out.mb.cell 4 rfl, HV.out.mb.cell 6 rfl, HV.out.mb.cell 7 rfl, HV.out.mb.cell 8 rfl⟩ (fun hHeld => ?_)
        clear hK; try clear KK
        try simp only [Act.put, List.setIfInBounds_toArray, List.set_cons_zero, List.set_cons_succ]
        refine wpAnyH_take (i := 21) (oi := ⟨some 65, _, _, _, _, _⟩) (v := (.pointer (some ⟨R, 0, none⟩))) rfl (by kernel_rfl) (by kernel_rfl) (by kernel_rfl) (fun _ _ _ h => h) (Or.inl ⟨by rfl, fun w hSw => by (try dsimp only at hSw); go_simp⟩) (by assumption) ?_
        simp only [Act.put, List.setIfInBounds_toArray, List.set_cons_zero, List.set_cons_succ]
        refine wpAnyH_take (i := 22) (oi := ⟨some 66, _, _, _, _, _⟩) (v := (.pointer (some ⟨R, 0, none⟩))) rfl (by kernel_rfl) (by kernel_rfl) (by kernel_rfl) (fun _ _ _ h => h) (Or.inl ⟨by rfl, fun w hSw => by (try dsimp only at hSw); go_simp⟩) (by assumption) ?_
        simp only [Act.put, List.setIfInBounds_toArray, List.set_cons_zero, List.set_cons_succ]
        refine wpAnyH_ready (rs := [23]) (by kernel_rfl) (by simp) ?_
        refine AllReadyH.cons (o := ⟨none, _, _, _, _, _⟩) rfl (fun KK hK => ?_) AllReadyH.nil
        have cR9 := (HR0.out.below HV.out.bel HR0.out.lt).cell 0 rfl
        have fR : w9.frozen? ⟨R, 0, none⟩ = false := (HR0.out.below HV.out.bel HR0.out.lt).free 0
        have HEND := Lib.hid (show RS N (w9.setCell ⟨R, 0, none⟩ (.slice (some ⟨g9, 0, none⟩) (([] : List (Key × Rest)).length + 1) cap9)) R (([] : List (Key × Rest)) ++ [((m.sym, m.id), ⟨m.code, m.price, m.qty⟩)]) ∧ Chg w.heap.size R w (w9.setCell ⟨R, 0, none⟩ (.slice (some ⟨g9, 0, none⟩) (([] : List (Key × Rest)).length + 1) cap9)) ∧ Blk (w9.setCell ⟨R, 0, none⟩ (.slice (some ⟨g9, 0, none⟩) (([] : List (Key × Rest)).length + 1) cap9)) w.heap.size m.cells 66 from HV.out.done HR0.out hRN hN _ rfl)
        go_simp
        change KK _ (w9.setCell ⟨R, 0, none⟩ (.slice (some ⟨g9, 0, none⟩) (([] : List (Key × Rest)).length + 1) cap9))
        generalize w9.setCell ⟨R, 0, none⟩ (.slice (some ⟨g9, 0, none⟩) (([] : List (Key × Rest)).length + 1) cap9) = w10 at HEND ⊢
        refine hK.out _ _ ⟨HEND.out.2.2.cell 1 rfl, HEND.out.2.2.cell 4 rfl, HEND.out.2.2.cell 6 rfl, HEND.out.2.2.cell 7 rfl, HEND.out.2.2.cell 8 rfl⟩ (fun hHeld => ?_)
        clear hK; try clear KK
        refine wpAnyH_done (by kernel_rfl) ?_ _
        go_wp2_with fail
        go_ret
        exact ⟨by (show Ending.returned (.bool true) = _; rw [HE.out]), by rw [HE.out]; exact HEND.out.1, HEND.out.2.1⟩
    · go_simp
      change KK _ (W2.alloc (.cells (rowC ((m.sym, m.id), ⟨m.code, m.price, m.qty⟩)) 172))
      replace HA := Lib.hid HA.out.alloc_n
      generalize W2.alloc (.cells (rowC ((m.sym, m.id), ⟨m.code, m.price, m.qty⟩)) 172) = W10 at HA ⊢
      generalize W2.heap.size = nb1 at HA ⊢
      refine hK.out _ _ ⟨HA.out.mb.cell 1 rfl, HA.out.mb.cell 4 rfl, HA.out.mb.cell 6 rfl, HA.out.mb.cell 7 rfl, HA.out.mb.cell 8 rfl⟩ (fun hHeld => ?_)
      clear hK; try clear KK
      try simp only [Act.put, List.setIfInBounds_toArray, List.set_cons_zero, List.set_cons_succ]
      refine wpAnyH_ready (rs := [1]) (by kernel_rfl) (by simp) ?_
      refine AllReadyH.cons (o := ⟨some 45, _, _, _, _, _⟩) rfl (fun KK hK => ?_) AllReadyH.nil
      go_simp
      change KK _ (W10.alloc (.cells #[] 172))
      replace HA := Lib.hid HA.out.alloc_e
      generalize W10.alloc (.cells #[] 172) = W11 at HA ⊢
      generalize W10.heap.size = e1 at HA ⊢
      refine hK.out _ _ ⟨HA.out.mb.cell 1 rfl, HA.out.mb.cell 4 rfl, HA.out.mb.cell 6 rfl, HA.out.mb.cell 7 rfl, HA.out.mb.cell 8 rfl⟩ (fun hHeld => ?_)
      clear hK; try clear KK
      try simp only [Act.put, List.setIfInBounds_toArray, List.set_cons_zero, List.set_cons_succ]
      refine wpAnyH_ready (rs := [6]) (by kernel_rfl) (by simp) ?_
      refine AllReadyH.cons (o := ⟨some 50, _, _, _, _, _⟩) rfl (fun KK hK => ?_) AllReadyH.nil
      refine step_append_none (by rfl) _ _ _ (by rfl) (w.heap.size + 1) 172 i0 8 Try.underlying72 hi0 _ 0 [] (by rfl) (HA.out.er e1 rfl) (by rfl) ?_
      have HV := Lib.hid HA.out.still
      clear HA
      refine hK.out _ _ ⟨HV.out.mb.cell 1 rfl, HV.out.mb.cell 4 rfl, HV.out.mb.cell 6 rfl, HV.out.mb.cell 7 rfl, HV.out.mb.cell 8 rfl⟩ (fun hHeld => ?_)
      clear hK; try clear KK
      try simp only [Act.put, List.setIfInBounds_toArray, List.set_cons_zero, List.set_cons_succ]
      refine wpAnyH_ready (rs := [20]) (by kernel_rfl) (by simp) ?_
      refine AllReadyH.cons (o := ⟨some 64, _, _, _, _, _⟩) rfl (fun KK hK => ?_) AllReadyH.nil
      refine step_append_lies _ (by rfl) _ _ _ (by rfl) (w.heap.size + 1) 172 i0 (.agg rowZ) 8 64 Try.underlying72 hi0 hz0 hz1 hz2 (by rfl) (by decide) _ ([] : List (Key × Rest)).length (rowsR ([] : List (Key × Rest))) (by rfl) HV.out.own ⟨nb1, 0, none⟩ 1 1 (rowC ((m.sym, m.id), ⟨m.code, m.price, m.qty⟩)).toList (by rfl) (by rfl) (news_blk (HV.out.nr nb1 rfl).1) (one_mem (one_row _)) (by decide) (by unfold maxLen; (try simp only [List.length_nil]); omega) (by (try simp only [List.length_nil]); omega) HV.out.le W11.heap.size rfl ?_
      intro g9 cap9 w9 hown9 hgrow9 hat9 hlt9
      replace HV := Lib.hid (HV.out.push hown9 hgrow9)
      clear hown9 hgrow9 hat9 hlt9
      refine hK.out _ _ ⟨HV.out.mb.cell 1 rfl, HV.out.mb.cell 4 rfl, HV.out.mb.cell 6 rfl, HV.out.mb.cell 7 rfl, HV.out.mb.cell 8 rfl⟩ (fun hHeld => ?_)
      clear hK; try clear KK
      try simp only [Act.put, List.setIfInBounds_toArray, List.set_cons_zero, List.set_cons_succ]
      refine wpAnyH_take (i := 21) (oi := ⟨some 65, _, _, _, _, _⟩) (v := (.pointer (some ⟨R, 0, none⟩))) rfl (by kernel_rfl) (by kernel_rfl) (by kernel_rfl) (fun _ _ _ h => h) (Or.inl ⟨by rfl, fun w hSw => by (try dsimp only at hSw); go_simp⟩) (by assumption) ?_
      simp only [Act.put, List.setIfInBounds_toArray, List.set_cons_zero, List.set_cons_succ]
      refine wpAnyH_take (i := 22) (oi := ⟨some 66, _, _, _, _, _⟩) (v := (.pointer (some ⟨R, 0, none⟩))) rfl (by kernel_rfl) (by kernel_rfl) (by kernel_rfl) (fun _ _ _ h => h) (Or.inl ⟨by rfl, fun w hSw => by (try dsimp only at hSw); go_simp⟩) (by assumption) ?_
      simp only [Act.put, List.setIfInBounds_toArray, List.set_cons_zero, List.set_cons_succ]
      refine wpAnyH_ready (rs := [23]) (by kernel_rfl) (by simp) ?_
      refine AllReadyH.cons (o := ⟨none, _, _, _, _, _⟩) rfl (fun KK hK => ?_) AllReadyH.nil
      have cR9 := (HR0.out.below HV.out.bel HR0.out.lt).cell 0 rfl
      have fR : w9.frozen? ⟨R, 0, none⟩ = false := (HR0.out.below HV.out.bel HR0.out.lt).free 0
      have HEND := Lib.hid (show RS N (w9.setCell ⟨R, 0, none⟩ (.slice (some ⟨g9, 0, none⟩) (([] : List (Key × Rest)).length + 1) cap9)) R (([] : List (Key × Rest)) ++ [((m.sym, m.id), ⟨m.code, m.price, m.qty⟩)]) ∧ Chg w.heap.size R w (w9.setCell ⟨R, 0, none⟩ (.slice (some ⟨g9, 0, none⟩) (([] : List (Key × Rest)).length + 1) cap9)) ∧ Blk (w9.setCell ⟨R, 0, none⟩ (.slice (some ⟨g9, 0, none⟩) (([] : List (Key × Rest)).length + 1) cap9)) w.heap.size m.cells 66 from HV.out.done HR0.out hRN hN _ rfl)
      go_simp
      change KK _ (w9.setCell ⟨R, 0, none⟩ (.slice (some ⟨g9, 0, none⟩) (([] : List (Key × Rest)).length + 1) cap9))
      generalize w9.setCell ⟨R, 0, none⟩ (.slice (some ⟨g9, 0, none⟩) (([] : List (Key × Rest)).length + 1) cap9) = w10 at HEND ⊢
      refine hK.out _ _ ⟨HEND.out.2.2.cell 1 rfl, HEND.out.2.2.cell 4 rfl, HEND.out.2.2.cell 6 rfl, HEND.out.2.2.cell 7 rfl, HEND.out.2.2.cell 8 rfl⟩ (fun hHeld => ?_)
      clear hK; try clear KK
      refine wpAnyH_done (by kernel_rfl) ?_ _
      go_wp2_with fail
      go_ret
      exact ⟨by (show Ending.returned (.bool true) = _; rw [HE.out]), by rw [HE.out]; exact HEND.out.1, HEND.out.2.1⟩
  · go_simp
    change KK _ (W2.alloc (.cells (rowC ((m.sym, m.id), ⟨m.code, m.price, m.qty⟩)) 172))
    replace HA := Lib.hid HA.out.alloc_n
    generalize W2.alloc (.cells (rowC ((m.sym, m.id), ⟨m.code, m.price, m.qty⟩)) 172) = W12 at HA ⊢
    generalize W2.heap.size = nb1 at HA ⊢
    refine hK.out _ _ ⟨HA.out.mb.cell 1 rfl, HA.out.mb.cell 4 rfl, HA.out.mb.cell 6 rfl, HA.out.mb.cell 7 rfl, HA.out.mb.cell 8 rfl⟩ (fun hHeld => ?_)
    clear hK; try clear KK
    try simp only [Act.put, List.setIfInBounds_toArray, List.set_cons_zero, List.set_cons_succ]
    refine wpAnyH_ready (rs := [1, 5]) (by kernel_rfl) (by simp) ?_
    refine AllReadyH.cons (o := ⟨some 45, _, _, _, _, _⟩) rfl (fun KK hK => ?_) (AllReadyH.cons (o := ⟨some 49, _, _, _, _, _⟩) rfl (fun KK hK => ?_) (AllReadyH.nil))
    · go_simp
      change KK _ (W12.alloc (.cells #[] 172))
      replace HA := Lib.hid HA.out.alloc_e
      generalize W12.alloc (.cells #[] 172) = W13 at HA ⊢
      generalize W12.heap.size = e1 at HA ⊢
      refine hK.out _ _ ⟨HA.out.mb.cell 1 rfl, HA.out.mb.cell 4 rfl, HA.out.mb.cell 6 rfl, HA.out.mb.cell 7 rfl, HA.out.mb.cell 8 rfl⟩ (fun hHeld => ?_)
      clear hK; try clear KK
      try simp only [Act.put, List.setIfInBounds_toArray, List.set_cons_zero, List.set_cons_succ]
      refine wpAnyH_ready (rs := [5]) (by kernel_rfl) (by simp) ?_
      refine AllReadyH.cons (o := ⟨some 49, _, _, _, _, _⟩) rfl (fun KK hK => ?_) AllReadyH.nil
      have cR : W13.cell? ⟨R, 0, none⟩ = some (.slice none 0 0) := by rw [HA.out.bel.cell (p := ⟨R, 0, none⟩) HR0.out.lt]; exact HR0.out.cell 0 rfl
      go_simp
      clear cR
      refine hK.out _ _ ⟨HA.out.mb.cell 1 rfl, HA.out.mb.cell 4 rfl, HA.out.mb.cell 6 rfl, HA.out.mb.cell 7 rfl, HA.out.mb.cell 8 rfl⟩ (fun hHeld => ?_)
      clear hK; try clear KK
      try simp only [Act.put, List.setIfInBounds_toArray, List.set_cons_zero, List.set_cons_succ]
      refine wpAnyH_ready (rs := [6]) (by kernel_rfl) (by simp) ?_
      refine AllReadyH.cons (o := ⟨some 50, _, _, _, _, _⟩) rfl (fun KK hK => ?_) AllReadyH.nil
      refine step_append_none (by rfl) _ _ _ (by rfl) (w.heap.size + 1) 172 i0 8 Try.underlying72 hi0 _ 0 [] (by rfl) (HA.out.er e1 rfl) (by rfl) ?_
      have HV := Lib.hid HA.out.still
      clear HA
      refine hK.out _ _ ⟨HV.out.mb.cell 1 rfl, HV.out.mb.cell 4 rfl, HV.out.mb.cell 6 rfl, HV.out.mb.cell 7 rfl, HV.out.mb.cell 8 rfl⟩ (fun hHeld => ?_)
      clear hK; try clear KK
      try simp only [Act.put, List.setIfInBounds_toArray, List.set_cons_zero, List.set_cons_succ]
      refine wpAnyH_ready (rs := [20]) (by kernel_rfl) (by simp) ?_
      refine AllReadyH.cons (o := ⟨some 64, _, _, _, _, _⟩) rfl (fun KK hK => ?_) AllReadyH.nil
      refine step_append_lies _ (by rfl) _ _ _ (by rfl) (w.heap.size + 1) 172 i0 (.agg rowZ) 8 64 Try.underlying72 hi0 hz0 hz1 hz2 (by rfl) (by decide) _ ([] : List (Key × Rest)).length (rowsR ([] : List (Key × Rest))) (by rfl) HV.out.own ⟨nb1, 0, none⟩ 1 1 (rowC ((m.sym, m.id), ⟨m.code, m.price, m.qty⟩)).toList (by rfl) (by rfl) (news_blk (HV.out.nr nb1 rfl).1) (one_mem (one_row _)) (by decide) (by unfold maxLen; (try simp only [List.length_nil]); omega) (by (try simp only [List.length_nil]); omega) HV.out.le W13.heap.size rfl ?_
      intro g9 cap9 w9 hown9 hgrow9 hat9 hlt9
      replace HV := Lib.hid (HV.out.push hown9 hgrow9)
      clear hown9 hgrow9 hat9 hlt9
      refine hK.out _ _ ⟨HV.out.mb.cell 1 rfl, HV.out.mb.cell 4 rfl, HV.out.mb.cell 6 rfl, HV.out.mb.cell 7 rfl, HV.out.mb.cell 8 rfl⟩ (fun hHeld => ?_)
      clear hK; try clear KK
      try simp only [Act.put, List.setIfInBounds_toArray, List.set_cons_zero, List.set_cons_succ]
      refine wpAnyH_take (i := 21) (oi := ⟨some 65, _, _, _, _, _⟩) (v := (.pointer (some ⟨R, 0, none⟩))) rfl (by kernel_rfl) (by kernel_rfl) (by kernel_rfl) (fun _ _ _ h => h) (Or.inl ⟨by rfl, fun w hSw => by (try dsimp only at hSw); go_simp⟩) (by assumption) ?_
      simp only [Act.put, List.setIfInBounds_toArray, List.set_cons_zero, List.set_cons_succ]
      refine wpAnyH_take (i := 22) (oi := ⟨some 66, _, _, _, _, _⟩) (v := (.pointer (some ⟨R, 0, none⟩))) rfl (by kernel_rfl) (by kernel_rfl) (by kernel_rfl) (fun _ _ _ h => h) (Or.inl ⟨by rfl, fun w hSw => by (try dsimp only at hSw); go_simp⟩) (by assumption) ?_
      simp only [Act.put, List.setIfInBounds_toArray, List.set_cons_zero, List.set_cons_succ]
      refine wpAnyH_ready (rs := [23]) (by kernel_rfl) (by simp) ?_
      refine AllReadyH.cons (o := ⟨none, _, _, _, _, _⟩) rfl (fun KK hK => ?_) AllReadyH.nil
      have cR9 := (HR0.out.below HV.out.bel HR0.out.lt).cell 0 rfl
      have fR : w9.frozen? ⟨R, 0, none⟩ = false := (HR0.out.below HV.out.bel HR0.out.lt).free 0
      have HEND := Lib.hid (show RS N (w9.setCell ⟨R, 0, none⟩ (.slice (some ⟨g9, 0, none⟩) (([] : List (Key × Rest)).length + 1) cap9)) R (([] : List (Key × Rest)) ++ [((m.sym, m.id), ⟨m.code, m.price, m.qty⟩)]) ∧ Chg w.heap.size R w (w9.setCell ⟨R, 0, none⟩ (.slice (some ⟨g9, 0, none⟩) (([] : List (Key × Rest)).length + 1) cap9)) ∧ Blk (w9.setCell ⟨R, 0, none⟩ (.slice (some ⟨g9, 0, none⟩) (([] : List (Key × Rest)).length + 1) cap9)) w.heap.size m.cells 66 from HV.out.done HR0.out hRN hN _ rfl)
      go_simp
      change KK _ (w9.setCell ⟨R, 0, none⟩ (.slice (some ⟨g9, 0, none⟩) (([] : List (Key × Rest)).length + 1) cap9))
      generalize w9.setCell ⟨R, 0, none⟩ (.slice (some ⟨g9, 0, none⟩) (([] : List (Key × Rest)).length + 1) cap9) = w10 at HEND ⊢
      refine hK.out _ _ ⟨HEND.out.2.2.cell 1 rfl, HEND.out.2.2.cell 4 rfl, HEND.out.2.2.cell 6 rfl, HEND.out.2.2.cell 7 rfl, HEND.out.2.2.cell 8 rfl⟩ (fun hHeld => ?_)
      clear hK; try clear KK
      refine wpAnyH_done (by kernel_rfl) ?_ _
      go_wp2_with fail
      go_ret
      exact ⟨by (show Ending.returned (.bool true) = _; rw [HE.out]), by rw [HE.out]; exact HEND.out.1, HEND.out.2.1⟩
    · have cR : W12.cell? ⟨R, 0, none⟩ = some (.slice none 0 0) := by rw [HA.out.bel.cell (p := ⟨R, 0, none⟩) HR0.out.lt]; exact HR0.out.cell 0 rfl
      go_simp
      clear cR
      refine hK.out _ _ ⟨HA.out.mb.cell 1 rfl, HA.out.mb.cell 4 rfl, HA.out.mb.cell 6 rfl, HA.out.mb.cell 7 rfl, HA.out.mb.cell 8 rfl⟩ (fun hHeld => ?_)
      clear hK; try clear KK
      try simp only [Act.put, List.setIfInBounds_toArray, List.set_cons_zero, List.set_cons_succ]
      refine wpAnyH_ready (rs := [1]) (by kernel_rfl) (by simp) ?_
      refine AllReadyH.cons (o := ⟨some 45, _, _, _, _, _⟩) rfl (fun KK hK => ?_) AllReadyH.nil
      go_simp
      change KK _ (W12.alloc (.cells #[] 172))
      replace HA := Lib.hid HA.out.alloc_e
      generalize W12.alloc (.cells #[] 172) = W14 at HA ⊢
      generalize W12.heap.size = e1 at HA ⊢
      refine hK.out _ _ ⟨HA.out.mb.cell 1 rfl, HA.out.mb.cell 4 rfl, HA.out.mb.cell 6 rfl, HA.out.mb.cell 7 rfl, HA.out.mb.cell 8 rfl⟩ (fun hHeld => ?_)
      clear hK; try clear KK
      try simp only [Act.put, List.setIfInBounds_toArray, List.set_cons_zero, List.set_cons_succ]
      refine wpAnyH_ready (rs := [6]) (by kernel_rfl) (by simp) ?_
      refine AllReadyH.cons (o := ⟨some 50, _, _, _, _, _⟩) rfl (fun KK hK => ?_) AllReadyH.nil
      refine step_append_none (by rfl) _ _ _ (by rfl) (w.heap.size + 1) 172 i0 8 Try.underlying72 hi0 _ 0 [] (by rfl) (HA.out.er e1 rfl) (by rfl) ?_
      have HV := Lib.hid HA.out.still
      clear HA
      refine hK.out _ _ ⟨HV.out.mb.cell 1 rfl, HV.out.mb.cell 4 rfl, HV.out.mb.cell 6 rfl, HV.out.mb.cell 7 rfl, HV.out.mb.cell 8 rfl⟩ (fun hHeld => ?_)
      clear hK; try clear KK
      try simp only [Act.put, List.setIfInBounds_toArray, List.set_cons_zero, List.set_cons_succ]
      refine wpAnyH_ready (rs := [20]) (by kernel_rfl) (by simp) ?_
      refine AllReadyH.cons (o := ⟨some 64, _, _, _, _, _⟩) rfl (fun KK hK => ?_) AllReadyH.nil
      refine step_append_lies _ (by rfl) _ _ _ (by rfl) (w.heap.size + 1) 172 i0 (.agg rowZ) 8 64 Try.underlying72 hi0 hz0 hz1 hz2 (by rfl) (by decide) _ ([] : List (Key × Rest)).length (rowsR ([] : List (Key × Rest))) (by rfl) HV.out.own ⟨nb1, 0, none⟩ 1 1 (rowC ((m.sym, m.id), ⟨m.code, m.price, m.qty⟩)).toList (by rfl) (by rfl) (news_blk (HV.out.nr nb1 rfl).1) (one_mem (one_row _)) (by decide) (by unfold maxLen; (try simp only [List.length_nil]); omega) (by (try simp only [List.length_nil]); omega) HV.out.le W14.heap.size rfl ?_
      intro g9 cap9 w9 hown9 hgrow9 hat9 hlt9
      replace HV := Lib.hid (HV.out.push hown9 hgrow9)
      clear hown9 hgrow9 hat9 hlt9
      refine hK.out _ _ ⟨HV.out.mb.cell 1 rfl, HV.out.mb.cell 4 rfl, HV.out.mb.cell 6 rfl, HV.out.mb.cell 7 rfl, HV.out.mb.cell 8 rfl⟩ (fun hHeld => ?_)
      clear hK; try clear KK
      try simp only [Act.put, List.setIfInBounds_toArray, List.set_cons_zero, List.set_cons_succ]
      refine wpAnyH_take (i := 21) (oi := ⟨some 65, _, _, _, _, _⟩) (v := (.pointer (some ⟨R, 0, none⟩))) rfl (by kernel_rfl) (by kernel_rfl) (by kernel_rfl) (fun _ _ _ h => h) (Or.inl ⟨by rfl, fun w hSw => by (try dsimp only at hSw); go_simp⟩) (by assumption) ?_
      simp only [Act.put, List.setIfInBounds_toArray, List.set_cons_zero, List.set_cons_succ]
      refine wpAnyH_take (i := 22) (oi := ⟨some 66, _, _, _, _, _⟩) (v := (.pointer (some ⟨R, 0, none⟩))) rfl (by kernel_rfl) (by kernel_rfl) (by kernel_rfl) (fun _ _ _ h => h) (Or.inl ⟨by rfl, fun w hSw => by (try dsimp only at hSw); go_simp⟩) (by assumption) ?_
      simp only [Act.put, List.setIfInBounds_toArray, List.set_cons_zero, List.set_cons_succ]
      refine wpAnyH_ready (rs := [23]) (by kernel_rfl) (by simp) ?_
      refine AllReadyH.cons (o := ⟨none, _, _, _, _, _⟩) rfl (fun KK hK => ?_) AllReadyH.nil
      have cR9 := (HR0.out.below HV.out.bel HR0.out.lt).cell 0 rfl
      have fR : w9.frozen? ⟨R, 0, none⟩ = false := (HR0.out.below HV.out.bel HR0.out.lt).free 0
      have HEND := Lib.hid (show RS N (w9.setCell ⟨R, 0, none⟩ (.slice (some ⟨g9, 0, none⟩) (([] : List (Key × Rest)).length + 1) cap9)) R (([] : List (Key × Rest)) ++ [((m.sym, m.id), ⟨m.code, m.price, m.qty⟩)]) ∧ Chg w.heap.size R w (w9.setCell ⟨R, 0, none⟩ (.slice (some ⟨g9, 0, none⟩) (([] : List (Key × Rest)).length + 1) cap9)) ∧ Blk (w9.setCell ⟨R, 0, none⟩ (.slice (some ⟨g9, 0, none⟩) (([] : List (Key × Rest)).length + 1) cap9)) w.heap.size m.cells 66 from HV.out.done HR0.out hRN hN _ rfl)
      go_simp
      change KK _ (w9.setCell ⟨R, 0, none⟩ (.slice (some ⟨g9, 0, none⟩) (([] : List (Key × Rest)).length + 1) cap9))
      generalize w9.setCell ⟨R, 0, none⟩ (.slice (some ⟨g9, 0, none⟩) (([] : List (Key × Rest)).length + 1) cap9) = w10 at HEND ⊢
      refine hK.out _ _ ⟨HEND.out.2.2.cell 1 rfl, HEND.out.2.2.cell 4 rfl, HEND.out.2.2.cell 6 rfl, HEND.out.2.2.cell 7 rfl, HEND.out.2.2.cell 8 rfl⟩ (fun hHeld => ?_)
      clear hK; try clear KK
      refine wpAnyH_done (by kernel_rfl) ?_ _
      go_wp2_with fail
      go_ret
      exact ⟨by (show Ending.returned (.bool true) = _; rw [HE.out]), by rw [HE.out]; exact HEND.out.1, HEND.out.2.1⟩
set_option maxRecDepth 20000 in
set_option maxHeartbeats 4000000 in
theorem ack_full1 (N R : Nat) (L : List (Key × Rest)) (m : Msg) (w : World) (h : RS N w R L) (hN : N ≤ w.heap.size) (hl : L.length ≤ 900) (hLp : 0 < L.length) (h1 : m.kind = 1) (hq : ¬ m.qty < 1) (hc : m.code = 0 ∨ m.code = 1) (c0 : (m.code != 0) = true) (c1 : (m.code != 1) = false)
    (hp1 : ¬ m.price < 1) (hp2 : ¬ 1099511627776 < m.price) (hk : mget (m.sym, m.id) L = none) :
    Calls Try.prog 38 #[.pointer (some ⟨R, 0, none⟩), .agg m.cells] w (RPutIs N R L m w) := by
  have g1 : (m.kind == 1) = true := by simp [h1]
  have HE := Lib.hid (show putF L m = (L ++ [((m.sym, m.id), ⟨m.code, m.price, m.qty⟩)], true) by
    have : 1 ≤ m.price ∧ m.price ≤ 1099511627776 := by omega
    simp [putF, h1, hk, hq, hc, this, mput_new hk])
  have HFE : findF L (m.sym, m.id) = -1 := by simp [findF, hk]
  clear h1 hc hk
  obtain ⟨v0, hR0, hRN, hrow0, hnil0⟩ := id h
  have HW0 := Lib.hid hrow0
  have HONE := Lib.hid (show ∀ u ∈ rowsR L, u.oneCell' = true from fun u hu => by
    obtain ⟨q, _, hq⟩ := List.mem_flatMap.1 hu
    exact one_mem (one_row q) u hq)
  obtain ⟨i0, hi0, hz0, hz1, hz2⟩ := info_parts infoRow
  obtain ⟨g0, cap0, rfl, hc0, hg0⟩ := World.ownsRow.form hrow0 hLp
  have HR0 := Lib.hid hR0
  have HNEW := Lib.hid (show ∀ j u, (rowsR L)[j]? = some u → w.cell? ((⟨g0, 0, none⟩ : Addr).add j) = some u from HW0.out.cells rfl)
  clear hR0 hrow0 hnil0
  have HS := Lib.hid (rb_start m h hN)
  clear h
  have m0 : (w.alloc (.cells m.cells 66)).cell? ⟨w.heap.size, 0, none⟩ = some (.int .i64 m.kind) := HS.out.mb.cell 0 rfl
  have m1 : (w.alloc (.cells m.cells 66)).cell? ⟨w.heap.size, 1, none⟩ = some (.int .i64 m.sym) := HS.out.mb.cell 1 rfl
  have m4 : (w.alloc (.cells m.cells 66)).cell? ⟨w.heap.size, 4, none⟩ = some (.int .i64 m.id) := HS.out.mb.cell 4 rfl
  have m5 : (w.alloc (.cells m.cells 66)).cell? ⟨w.heap.size, 5, none⟩ = some (.int .i64 m.wth) := HS.out.mb.cell 5 rfl
  have m6 : (w.alloc (.cells m.cells 66)).cell? ⟨w.heap.size, 6, none⟩ = some (.int .i64 m.price) := HS.out.mb.cell 6 rfl
  have m7 : (w.alloc (.cells m.cells 66)).cell? ⟨w.heap.size, 7, none⟩ = some (.int .i64 m.qty) := HS.out.mb.cell 7 rfl
  have m8 : (w.alloc (.cells m.cells 66)).cell? ⟨w.heap.size, 8, none⟩ = some (.int .i64 m.code) := HS.out.mb.cell 8 rfl
  go_enter Try.func38, Try.ntmps38
  go_wp2_with fail
  refine (find_any N R _ m.sym m.id _ HS.out.rs).mono ?_
  rintro e w2 ⟨rfl, rfl⟩
  rw [HFE]
  clear m0 m1 m4 m5 m6 m7 m8
  go_upto_region 5 with fail
  have HA := Lib.hid (show AK w m ((m.sym, m.id), ⟨m.code, m.price, m.qty⟩) (w.alloc (.cells m.cells 66)) none none from ⟨(Below.refl _ _).alloc (Nat.le_refl _) _, Blk.new _ _ _ _ rfl, fun b hb => (by cases hb), fun b hb => (by cases hb)⟩)
  generalize w.alloc (.cells m.cells 66) = W1 at HS HA ⊢
  refine wp_region_held_drew (S := (fun w' => w'.cell? ⟨w.heap.size, 1, none⟩ = some (.int .i64 m.sym) ∧ w'.cell? ⟨w.heap.size, 4, none⟩ = some (.int .i64 m.id) ∧ w'.cell? ⟨w.heap.size, 6, none⟩ = some (.int .i64 m.price) ∧ w'.cell? ⟨w.heap.size, 7, none⟩ = some (.int .i64 m.qty) ∧ w'.cell? ⟨w.heap.size, 8, none⟩ = some (.int .i64 m.code))) (by kernel_rfl) ⟨HS.out.mb.cell 1 rfl, HS.out.mb.cell 4 rfl, HS.out.mb.cell 6 rfl, HS.out.mb.cell 7 rfl, HS.out.mb.cell 8 rfl⟩ (fun hHeld => ?_)
  clear HS
  replace HA := Lib.hid HA.out.drew
  generalize W1.drew = W2 at HA hHeld ⊢
  refine wpAnyH_take (i := 0) (oi := ⟨some 44, _, _, _, _, _⟩) (v := (.pointer (some ⟨R, 0, none⟩))) rfl (by kernel_rfl) (by kernel_rfl) (by kernel_rfl) (fun _ _ _ h => h) (Or.inl ⟨by rfl, fun w hSw => by (try dsimp only at hSw); go_simp⟩) (by assumption) ?_
  simp only [Act.put, List.setIfInBounds_toArray, List.set_cons_zero, List.set_cons_succ]
  refine wpAnyH_take (i := 2) (oi := ⟨some 46, _, _, _, _, _⟩) (v := (.pointer (some ⟨R, 0, none⟩))) rfl (by kernel_rfl) (by kernel_rfl) (by kernel_rfl) (fun _ _ _ h => h) (Or.inl ⟨by rfl, fun w hSw => by (try dsimp only at hSw); go_simp⟩) (by assumption) ?_
  simp only [Act.put, List.setIfInBounds_toArray, List.set_cons_zero, List.set_cons_succ]
  refine wpAnyH_take (i := 3) (oi := ⟨some 47, _, _, _, _, _⟩) (v := (.pointer (some ⟨R, 0, none⟩))) rfl (by kernel_rfl) (by kernel_rfl) (by kernel_rfl) (fun _ _ _ h => h) (Or.inl ⟨by rfl, fun w hSw => by (try dsimp only at hSw); go_simp⟩) (by assumption) ?_
  simp only [Act.put, List.setIfInBounds_toArray, List.set_cons_zero, List.set_cons_succ]
  refine wpAnyH_take (i := 4) (oi := ⟨some 48, _, _, _, _, _⟩) (v := (.pointer (some ⟨R, 0, none⟩))) rfl (by kernel_rfl) (by kernel_rfl) (by kernel_rfl) (fun _ _ _ h => h) (Or.inl ⟨by rfl, fun w hSw => by (try dsimp only at hSw); go_simp⟩) (by assumption) ?_
  simp only [Act.put, List.setIfInBounds_toArray, List.set_cons_zero, List.set_cons_succ]
  refine wpAnyH_take (i := 7) (oi := ⟨some 51, _, _, _, _, _⟩) (v := (.pointer (some ⟨w.heap.size, 1, none⟩))) rfl (by kernel_rfl) (by kernel_rfl) (by kernel_rfl) (fun _ _ _ h => h) (Or.inl ⟨by rfl, fun w hSw => by (try dsimp only at hSw); go_simp⟩) (by assumption) ?_
  simp only [Act.put, List.setIfInBounds_toArray, List.set_cons_zero, List.set_cons_succ]
  refine wpAnyH_take (i := 8) (oi := ⟨some 52, _, _, _, _, _⟩) (v := (.int .i64 m.sym)) rfl (by kernel_rfl) (by kernel_rfl) (by kernel_rfl) (fun _ _ _ h => h) (Or.inl ⟨by rfl, fun w hSw => by (try dsimp only at hSw); go_simp⟩) (by assumption) ?_
  simp only [Act.put, List.setIfInBounds_toArray, List.set_cons_zero, List.set_cons_succ]
  refine wpAnyH_take (i := 9) (oi := ⟨some 53, _, _, _, _, _⟩) (v := (.pointer (some ⟨w.heap.size, 4, none⟩))) rfl (by kernel_rfl) (by kernel_rfl) (by kernel_rfl) (fun _ _ _ h => h) (Or.inl ⟨by rfl, fun w hSw => by (try dsimp only at hSw); go_simp⟩) (by assumption) ?_
  simp only [Act.put, List.setIfInBounds_toArray, List.set_cons_zero, List.set_cons_succ]
  refine wpAnyH_take (i := 10) (oi := ⟨some 54, _, _, _, _, _⟩) (v := (.int .i64 m.id)) rfl (by kernel_rfl) (by kernel_rfl) (by kernel_rfl) (fun _ _ _ h => h) (Or.inl ⟨by rfl, fun w hSw => by (try dsimp only at hSw); go_simp⟩) (by assumption) ?_
  simp only [Act.put, List.setIfInBounds_toArray, List.set_cons_zero, List.set_cons_succ]
  refine wpAnyH_take (i := 11) (oi := ⟨some 55, _, _, _, _, _⟩) (v := (.pointer (some ⟨w.heap.size, 8, none⟩))) rfl (by kernel_rfl) (by kernel_rfl) (by kernel_rfl) (fun _ _ _ h => h) (Or.inl ⟨by rfl, fun w hSw => by (try dsimp only at hSw); go_simp⟩) (by assumption) ?_
  simp only [Act.put, List.setIfInBounds_toArray, List.set_cons_zero, List.set_cons_succ]
  refine wpAnyH_take (i := 12) (oi := ⟨some 56, _, _, _, _, _⟩) (v := (.int .i64 m.code)) rfl (by kernel_rfl) (by kernel_rfl) (by kernel_rfl) (fun _ _ _ h => h) (Or.inl ⟨by rfl, fun w hSw => by (try dsimp only at hSw); go_simp⟩) (by assumption) ?_
  simp only [Act.put, List.setIfInBounds_toArray, List.set_cons_zero, List.set_cons_succ]
  refine wpAnyH_take (i := 13) (oi := ⟨some 57, _, _, _, _, _⟩) (v := (.pointer (some ⟨w.heap.size, 6, none⟩))) rfl (by kernel_rfl) (by kernel_rfl) (by kernel_rfl) (fun _ _ _ h => h) (Or.inl ⟨by rfl, fun w hSw => by (try dsimp only at hSw); go_simp⟩) (by assumption) ?_
  simp only [Act.put, List.setIfInBounds_toArray, List.set_cons_zero, List.set_cons_succ]
  refine wpAnyH_take (i := 14) (oi := ⟨some 58, _, _, _, _, _⟩) (v := (.int .i64 m.price)) rfl (by kernel_rfl) (by kernel_rfl) (by kernel_rfl) (fun _ _ _ h => h) (Or.inl ⟨by rfl, fun w hSw => by (try dsimp only at hSw); go_simp⟩) (by assumption) ?_
  simp only [Act.put, List.setIfInBounds_toArray, List.set_cons_zero, List.set_cons_succ]
  refine wpAnyH_take (i := 15) (oi := ⟨some 59, _, _, _, _, _⟩) (v := (.pointer (some ⟨w.heap.size, 7, none⟩))) rfl (by kernel_rfl) (by kernel_rfl) (by kernel_rfl) (fun _ _ _ h => h) (Or.inl ⟨by rfl, fun w hSw => by (try dsimp only at hSw); go_simp⟩) (by assumption) ?_
  simp only [Act.put, List.setIfInBounds_toArray, List.set_cons_zero, List.set_cons_succ]
  refine wpAnyH_take (i := 16) (oi := ⟨some 60, _, _, _, _, _⟩) (v := (.int .i64 m.qty)) rfl (by kernel_rfl) (by kernel_rfl) (by kernel_rfl) (fun _ _ _ h => h) (Or.inl ⟨by rfl, fun w hSw => by (try dsimp only at hSw); go_simp⟩) (by assumption) ?_
  simp only [Act.put, List.setIfInBounds_toArray, List.set_cons_zero, List.set_cons_succ]
  refine wpAnyH_take (i := 17) (oi := ⟨some 61, _, _, _, _, _⟩) (v := (.agg #[.int .i64 m.id, .int .i64 0, .int .i64 m.code, .int .i64 m.price, .int .i64 m.qty, .int .i64 0, .int .i64 0])) rfl (by kernel_rfl) (by kernel_rfl) (by kernel_rfl) (fun _ _ _ h => h) (Or.inl ⟨by rfl, fun w hSw => by (try dsimp only at hSw); go_simp⟩) (by assumption) ?_
  simp only [Act.put, List.setIfInBounds_toArray, List.set_cons_zero, List.set_cons_succ]
  refine wpAnyH_take (i := 18) (oi := ⟨some 62, _, _, _, _, _⟩) (v := (.agg #[.int .i64 m.sym, .int .i64 m.id, .int .i64 0, .int .i64 m.code, .int .i64 m.price, .int .i64 m.qty, .int .i64 0, .int .i64 0])) rfl (by kernel_rfl) (by kernel_rfl) (by kernel_rfl) (fun _ _ _ h => h) (Or.inl ⟨by rfl, fun w hSw => by (try dsimp only at hSw); go_simp⟩) (by assumption) ?_
  simp only [Act.put, List.setIfInBounds_toArray, List.set_cons_zero, List.set_cons_succ]
  refine wpAnyH_ready (rs := [1, 5, 19]) (by kernel_rfl) (by simp) ?_
  refine AllReadyH.cons (o := ⟨some 45, _, _, _, _, _⟩) rfl (fun KK hK => ?_) (AllReadyH.cons (o := ⟨some 49, _, _, _, _, _⟩) rfl (fun KK hK => ?_) (AllReadyH.cons (o := ⟨some 63, _, _, _, _, _⟩) rfl (fun KK hK => ?_) (AllReadyH.nil)))
  · go_simp
    change KK _ (W2.alloc (.cells #[] 172))
    replace HA := Lib.hid HA.out.alloc_e
    generalize W2.alloc (.cells #[] 172) = W3 at HA ⊢
    generalize W2.heap.size = e1 at HA ⊢
    refine hK.out _ _ ⟨HA.out.mb.cell 1 rfl, HA.out.mb.cell 4 rfl, HA.out.mb.cell 6 rfl, HA.out.mb.cell 7 rfl, HA.out.mb.cell 8 rfl⟩ (fun hHeld => ?_)
    clear hK; try clear KK
    try simp only [Act.put, List.setIfInBounds_toArray, List.set_cons_zero, List.set_cons_succ]
    refine wpAnyH_ready (rs := [5, 19]) (by kernel_rfl) (by simp) ?_
    refine AllReadyH.cons (o := ⟨some 49, _, _, _, _, _⟩) rfl (fun KK hK => ?_) (AllReadyH.cons (o := ⟨some 63, _, _, _, _, _⟩) rfl (fun KK hK => ?_) (AllReadyH.nil))
    · have cR : W3.cell? ⟨R, 0, none⟩ = some (.slice (some ⟨g0, 0, none⟩) L.length cap0) := by rw [HA.out.bel.cell (p := ⟨R, 0, none⟩) HR0.out.lt]; exact HR0.out.cell 0 rfl
      go_simp
      clear cR
      refine hK.out _ _ ⟨HA.out.mb.cell 1 rfl, HA.out.mb.cell 4 rfl, HA.out.mb.cell 6 rfl, HA.out.mb.cell 7 rfl, HA.out.mb.cell 8 rfl⟩ (fun hHeld => ?_)
      clear hK; try clear KK
      try simp only [Act.put, List.setIfInBounds_toArray, List.set_cons_zero, List.set_cons_succ]
      refine wpAnyH_ready (rs := [6, 19]) (by kernel_rfl) (by simp) ?_
      refine AllReadyH.cons (o := ⟨some 50, _, _, _, _, _⟩) rfl (fun KK hK => ?_) (AllReadyH.cons (o := ⟨some 63, _, _, _, _, _⟩) rfl (fun KK hK => ?_) (AllReadyH.nil))
      · refine step_append_lies _ (by rfl) _ _ _ (by rfl) (w.heap.size + 1) 172 i0 (.agg rowZ) 8 64 Try.underlying72 hi0 hz0 hz1 hz2 (by rfl) (by decide) _ 0 [] (by rfl) (HA.out.er e1 rfl) ⟨g0, 0, none⟩ L.length cap0 (rowsR L) (by rfl) (flat_len rowC 8 rowC_size L) (fun j u hu => (HA.out.bel.cell (p := (⟨g0, 0, none⟩ : Addr).add j) (by simp only [Addr.add]; split <;> exact hg0)).trans (HNEW.out j u hu)) HONE.out hLp (by unfold maxLen; omega) (by omega) HA.out.le W3.heap.size rfl ?_
        intro g cap W4 hown hgrow hat hlt
        rw [Nat.zero_add]
        have HV := Lib.hid (HA.out.grow hown hgrow hat)
        clear hown hgrow hat hlt HA
        refine hK.out _ _ ⟨HV.out.mb.cell 1 rfl, HV.out.mb.cell 4 rfl, HV.out.mb.cell 6 rfl, HV.out.mb.cell 7 rfl, HV.out.mb.cell 8 rfl⟩ (fun hHeld => ?_)
        clear hK; try clear KK
        try simp only [Act.put, List.setIfInBounds_toArray, List.set_cons_zero, List.set_cons_succ]
        refine wpAnyH_ready (rs := [19]) (by kernel_rfl) (by simp) ?_
        refine AllReadyH.cons (o := ⟨some 63, _, _, _, _, _⟩) rfl (fun KK hK => ?_) AllReadyH.nil
        go_simp
        change KK _ (W4.alloc (.cells (rowC ((m.sym, m.id), ⟨m.code, m.price, m.qty⟩)) 172))
        replace HV := Lib.hid HV.out.alloc_n
        generalize W4.alloc (.cells (rowC ((m.sym, m.id), ⟨m.code, m.price, m.qty⟩)) 172) = W5 at HV ⊢
        generalize W4.heap.size = nb1 at HV ⊢
        refine hK.out _ _ ⟨HV.out.mb.cell 1 rfl, HV.out.mb.cell 4 rfl, HV.out.mb.cell 6 rfl, HV.out.mb.cell 7 rfl, HV.out.mb.cell 8 rfl⟩ (fun hHeld => ?_)
        clear hK; try clear KK
        try simp only [Act.put, List.setIfInBounds_toArray, List.set_cons_zero, List.set_cons_succ]
        refine wpAnyH_ready (rs := [20]) (by kernel_rfl) (by simp) ?_
        refine AllReadyH.cons (o := ⟨some 64, _, _, _, _, _⟩) rfl (fun KK hK => ?_) AllReadyH.nil
        refine step_append_lies _ (by rfl) _ _ _ (by rfl) (w.heap.size + 1) 172 i0 (.agg rowZ) 8 64 Try.underlying72 hi0 hz0 hz1 hz2 (by rfl) (by decide) _ L.length (rowsR L) (by rfl) HV.out.own ⟨nb1, 0, none⟩ 1 1 (rowC ((m.sym, m.id), ⟨m.code, m.price, m.qty⟩)).toList (by rfl) (by rfl) (news_blk (HV.out.nr nb1 rfl).1) (one_mem (one_row _)) (by decide) (by unfold maxLen; (try simp only [List.length_nil]); omega) (by (try simp only [List.length_nil]); omega) HV.out.le W5.heap.size rfl ?_
        intro g9 cap9 w9 hown9 hgrow9 hat9 hlt9
        replace HV := Lib.hid (HV.out.push hown9 hgrow9)
        clear hown9 hgrow9 hat9 hlt9
        refine hK.out _ _ ⟨HV.out.mb.cell 1 rfl, HV.out.mb.cell 4 rfl, HV.out.mb.cell 6 rfl, HV.out.mb.cell 7 rfl, HV.out.mb.cell 8 rfl⟩ (fun hHeld => ?_)
        clear hK; try clear KK
        try simp only [Act.put, List.setIfInBounds_toArray, List.set_cons_zero, List.set_cons_succ]
        refine wpAnyH_take (i := 21) (oi := ⟨some 65, _, _, _, _, _⟩) (v := (.pointer (some ⟨R, 0, none⟩))) rfl (by kernel_rfl) (by kernel_rfl) (by kernel_rfl) (fun _ _ _ h => h) (Or.inl ⟨by rfl, fun w hSw => by (try dsimp only at hSw); go_simp⟩) (by assumption) ?_
        simp only [Act.put, List.setIfInBounds_toArray, List.set_cons_zero, List.set_cons_succ]
        refine wpAnyH_take (i := 22) (oi := ⟨some 66, _, _, _, _, _⟩) (v := (.pointer (some ⟨R, 0, none⟩))) rfl (by kernel_rfl) (by kernel_rfl) (by kernel_rfl) (fun _ _ _ h => h) (Or.inl ⟨by rfl, fun w hSw => by (try dsimp only at hSw); go_simp⟩) (by assumption) ?_
        simp only [Act.put, List.setIfInBounds_toArray, List.set_cons_zero, List.set_cons_succ]
        refine wpAnyH_ready (rs := [23]) (by kernel_rfl) (by simp) ?_
        refine AllReadyH.cons (o := ⟨none, _, _, _, _, _⟩) rfl (fun KK hK => ?_) AllReadyH.nil
        have cR9 := (HR0.out.below HV.out.bel HR0.out.lt).cell 0 rfl
        have fR : w9.frozen? ⟨R, 0, none⟩ = false := (HR0.out.below HV.out.bel HR0.out.lt).free 0
        have HEND := Lib.hid (show RS N (w9.setCell ⟨R, 0, none⟩ (.slice (some ⟨g9, 0, none⟩) (L.length + 1) cap9)) R (L ++ [((m.sym, m.id), ⟨m.code, m.price, m.qty⟩)]) ∧ Chg w.heap.size R w (w9.setCell ⟨R, 0, none⟩ (.slice (some ⟨g9, 0, none⟩) (L.length + 1) cap9)) ∧ Blk (w9.setCell ⟨R, 0, none⟩ (.slice (some ⟨g9, 0, none⟩) (L.length + 1) cap9)) w.heap.size m.cells 66 from HV.out.done HR0.out hRN hN _ rfl)
        go_simp
        change KK _ (w9.setCell ⟨R, 0, none⟩ (.slice (some ⟨g9, 0, none⟩) (L.length + 1) cap9))
        generalize w9.setCell ⟨R, 0, none⟩ (.slice (some ⟨g9, 0, none⟩) (L.length + 1) cap9) = w10 at HEND ⊢
        refine hK.out _ _ ⟨HEND.out.2.2.cell 1 rfl, HEND.out.2.2.cell 4 rfl, HEND.out.2.2.cell 6 rfl, HEND.out.2.2.cell 7 rfl, HEND.out.2.2.cell 8 rfl⟩ (fun hHeld => ?_)
        clear hK; try clear KK
        refine wpAnyH_done (by kernel_rfl) ?_ _
        go_wp2_with fail
        go_ret
        exact ⟨by (show Ending.returned (.bool true) = _; rw [HE.out]), by rw [HE.out]; exact HEND.out.1, HEND.out.2.1⟩
      · go_simp
        change KK _ (W3.alloc (.cells (rowC ((m.sym, m.id), ⟨m.code, m.price, m.qty⟩)) 172))
        replace HA := Lib.hid HA.out.alloc_n
        generalize W3.alloc (.cells (rowC ((m.sym, m.id), ⟨m.code, m.price, m.qty⟩)) 172) = W6 at HA ⊢
        generalize W3.heap.size = nb1 at HA ⊢
        refine hK.out _ _ ⟨HA.out.mb.cell 1 rfl, HA.out.mb.cell 4 rfl, HA.out.mb.cell 6 rfl, HA.out.mb.cell 7 rfl, HA.out.mb.cell 8 rfl⟩ (fun hHeld => ?_)
        clear hK; try clear KK
        try simp only [Act.put, List.setIfInBounds_toArray, List.set_cons_zero, List.set_cons_succ]
        refine wpAnyH_ready (rs := [6]) (by kernel_rfl) (by simp) ?_
        refine AllReadyH.cons (o := ⟨some 50, _, _, _, _, _⟩) rfl (fun KK hK => ?_) AllReadyH.nil
        refine step_append_lies _ (by rfl) _ _ _ (by rfl) (w.heap.size + 1) 172 i0 (.agg rowZ) 8 64 Try.underlying72 hi0 hz0 hz1 hz2 (by rfl) (by decide) _ 0 [] (by rfl) (HA.out.er e1 rfl) ⟨g0, 0, none⟩ L.length cap0 (rowsR L) (by rfl) (flat_len rowC 8 rowC_size L) (fun j u hu => (HA.out.bel.cell (p := (⟨g0, 0, none⟩ : Addr).add j) (by simp only [Addr.add]; split <;> exact hg0)).trans (HNEW.out j u hu)) HONE.out hLp (by unfold maxLen; omega) (by omega) HA.out.le W6.heap.size rfl ?_
        intro g cap W7 hown hgrow hat hlt
        rw [Nat.zero_add]
        have HV := Lib.hid (HA.out.grow hown hgrow hat)
        clear hown hgrow hat hlt HA
        refine hK.out _ _ ⟨HV.out.mb.cell 1 rfl, HV.out.mb.cell 4 rfl, HV.out.mb.cell 6 rfl, HV.out.mb.cell 7 rfl, HV.out.mb.cell 8 rfl⟩ (fun hHeld => ?_)
        clear hK; try clear KK
        try simp only [Act.put, List.setIfInBounds_toArray, List.set_cons_zero, List.set_cons_succ]
        refine wpAnyH_ready (rs := [20]) (by kernel_rfl) (by simp) ?_
        refine AllReadyH.cons (o := ⟨some 64, _, _, _, _, _⟩) rfl (fun KK hK => ?_) AllReadyH.nil
        refine step_append_lies _ (by rfl) _ _ _ (by rfl) (w.heap.size + 1) 172 i0 (.agg rowZ) 8 64 Try.underlying72 hi0 hz0 hz1 hz2 (by rfl) (by decide) _ L.length (rowsR L) (by rfl) HV.out.own ⟨nb1, 0, none⟩ 1 1 (rowC ((m.sym, m.id), ⟨m.code, m.price, m.qty⟩)).toList (by rfl) (by rfl) (news_blk (HV.out.nr nb1 rfl).1) (one_mem (one_row _)) (by decide) (by unfold maxLen; (try simp only [List.length_nil]); omega) (by (try simp only [List.length_nil]); omega) HV.out.le W7.heap.size rfl ?_
        intro g9 cap9 w9 hown9 hgrow9 hat9 hlt9
        replace HV := Lib.hid (HV.out.push hown9 hgrow9)
        clear hown9 hgrow9 hat9 hlt9
        refine hK.out _ _ ⟨HV.out.mb.cell 1 rfl, HV.out.mb.cell 4 rfl, HV.out.mb.cell 6 rfl, HV.out.mb.cell 7 rfl, HV.out.mb.cell 8 rfl⟩ (fun hHeld => ?_)
        clear hK; try clear KK
        try simp only [Act.put, List.setIfInBounds_toArray, List.set_cons_zero, List.set_cons_succ]
        refine wpAnyH_take (i := 21) (oi := ⟨some 65, _, _, _, _, _⟩) (v := (.pointer (some ⟨R, 0, none⟩))) rfl (by kernel_rfl) (by kernel_rfl) (by kernel_rfl) (fun _ _ _ h => h) (Or.inl ⟨by rfl, fun w hSw => by (try dsimp only at hSw); go_simp⟩) (by assumption) ?_
        simp only [Act.put, List.setIfInBounds_toArray, List.set_cons_zero, List.set_cons_succ]
        refine wpAnyH_take (i := 22) (oi := ⟨some 66, _, _, _, _, _⟩) (v := (.pointer (some ⟨R, 0, none⟩))) rfl (by kernel_rfl) (by kernel_rfl) (by kernel_rfl) (fun _ _ _ h => h) (Or.inl ⟨by rfl, fun w hSw => by (try dsimp only at hSw); go_simp⟩) (by assumption) ?_
        simp only [Act.put, List.setIfInBounds_toArray, List.set_cons_zero, List.set_cons_succ]
        refine wpAnyH_ready (rs := [23]) (by kernel_rfl) (by simp) ?_
        refine AllReadyH.cons (o := ⟨none, _, _, _, _, _⟩) rfl (fun KK hK => ?_) AllReadyH.nil
        have cR9 := (HR0.out.below HV.out.bel HR0.out.lt).cell 0 rfl
        have fR : w9.frozen? ⟨R, 0, none⟩ = false := (HR0.out.below HV.out.bel HR0.out.lt).free 0
        have HEND := Lib.hid (show RS N (w9.setCell ⟨R, 0, none⟩ (.slice (some ⟨g9, 0, none⟩) (L.length + 1) cap9)) R (L ++ [((m.sym, m.id), ⟨m.code, m.price, m.qty⟩)]) ∧ Chg w.heap.size R w (w9.setCell ⟨R, 0, none⟩ (.slice (some ⟨g9, 0, none⟩) (L.length + 1) cap9)) ∧ Blk (w9.setCell ⟨R, 0, none⟩ (.slice (some ⟨g9, 0, none⟩) (L.length + 1) cap9)) w.heap.size m.cells 66 from HV.out.done HR0.out hRN hN _ rfl)
        go_simp
        change KK _ (w9.setCell ⟨R, 0, none⟩ (.slice (some ⟨g9, 0, none⟩) (L.length + 1) cap9))
        generalize w9.setCell ⟨R, 0, none⟩ (.slice (some ⟨g9, 0, none⟩) (L.length + 1) cap9) = w10 at HEND ⊢
        refine hK.out _ _ ⟨HEND.out.2.2.cell 1 rfl, HEND.out.2.2.cell 4 rfl, HEND.out.2.2.cell 6 rfl, HEND.out.2.2.cell 7 rfl, HEND.out.2.2.cell 8 rfl⟩ (fun hHeld => ?_)
        clear hK; try clear KK
        refine wpAnyH_done (by kernel_rfl) ?_ _
        go_wp2_with fail
        go_ret
        exact ⟨by (show Ending.returned (.bool true) = _; rw [HE.out]), by rw [HE.out]; exact HEND.out.1, HEND.out.2.1⟩
    · go_simp
      change KK _ (W3.alloc (.cells (rowC ((m.sym, m.id), ⟨m.code, m.price, m.qty⟩)) 172))
      replace HA := Lib.hid HA.out.alloc_n
      generalize W3.alloc (.cells (rowC ((m.sym, m.id), ⟨m.code, m.price, m.qty⟩)) 172) = W8 at HA ⊢
      generalize W3.heap.size = nb1 at HA ⊢
      refine hK.out _ _ ⟨HA.out.mb.cell 1 rfl, HA.out.mb.cell 4 rfl, HA.out.mb.cell 6 rfl, HA.out.mb.cell 7 rfl, HA.out.mb.cell 8 rfl⟩ (fun hHeld => ?_)
      clear hK; try clear KK
      try simp only [Act.put, List.setIfInBounds_toArray, List.set_cons_zero, List.set_cons_succ]
      refine wpAnyH_ready (rs := [5]) (by kernel_rfl) (by simp) ?_
      refine AllReadyH.cons (o := ⟨some 49, _, _, _, _, _⟩) rfl (fun KK hK => ?_) AllReadyH.nil
      have cR : W8.cell? ⟨R, 0, none⟩ = some (.slice (some ⟨g0, 0, none⟩) L.length cap0) := by rw [HA.out.bel.cell (p := ⟨R, 0, none⟩) HR0.out.lt]; exact HR0.out.cell 0 rfl
      go_simp
      clear cR
      refine hK.out _ _ ⟨HA.out.mb.cell 1 rfl, HA.out.mb.cell 4 rfl, HA.out.mb.cell 6 rfl, HA.out.mb.cell 7 rfl, HA.out.mb.cell 8 rfl⟩ (fun hHeld => ?_)
      clear hK; try clear KK
      try simp only [Act.put, List.setIfInBounds_toArray, List.set_cons_zero, List.set_cons_succ]
      refine wpAnyH_ready (rs := [6]) (by kernel_rfl) (by simp) ?_
      refine AllReadyH.cons (o := ⟨some 50, _, _, _, _, _⟩) rfl (fun KK hK => ?_) AllReadyH.nil
      refine step_append_lies _ (by rfl) _ _ _ (by rfl) (w.heap.size + 1) 172 i0 (.agg rowZ) 8 64 Try.underlying72 hi0 hz0 hz1 hz2 (by rfl) (by decide) _ 0 [] (by rfl) (HA.out.er e1 rfl) ⟨g0, 0, none⟩ L.length cap0 (rowsR L) (by rfl) (flat_len rowC 8 rowC_size L) (fun j u hu => (HA.out.bel.cell (p := (⟨g0, 0, none⟩ : Addr).add j) (by simp only [Addr.add]; split <;> exact hg0)).trans (HNEW.out j u hu)) HONE.out hLp (by unfold maxLen; omega) (by omega) HA.out.le W8.heap.size rfl ?_
      intro g cap W9 hown hgrow hat hlt
      rw [Nat.zero_add]
      have HV := Lib.hid (HA.out.grow hown hgrow hat)
      clear hown hgrow hat hlt HA
      refine hK.out _ _ ⟨HV.out.mb.cell 1 rfl, HV.out.mb.cell 4 rfl, HV.out.mb.cell 6 rfl, HV.out.mb.cell 7 rfl, HV.out.mb.cell 8 rfl⟩ (fun hHeld => ?_)
      clear hK; try clear KK
      try simp only [Act.put, List.setIfInBounds_toArray, List.set_cons_zero, List.set_cons_succ]
      refine wpAnyH_ready (rs := [20]) (by kernel_rfl) (by simp) ?_
      refine AllReadyH.cons (o := ⟨some 64, _, _, _, _, _⟩) rfl (fun KK hK => ?_) AllReadyH.nil
      refine step_append_lies _ (by rfl) _ _ _ (by rfl) (w.heap.size + 1) 172 i0 (.agg rowZ) 8 64 Try.underlying72 hi0 hz0 hz1 hz2 (by rfl) (by decide) _ L.length (rowsR L) (by rfl) HV.out.own ⟨nb1, 0, none⟩ 1 1 (rowC ((m.sym, m.id), ⟨m.code, m.price, m.qty⟩)).toList (by rfl) (by rfl) (news_blk (HV.out.nr nb1 rfl).1) (one_mem (one_row _)) (by decide) (by unfold maxLen; (try simp only [List.length_nil]); omega) (by (try simp only [List.length_nil]); omega) HV.out.le W9.heap.size rfl ?_
      intro g9 cap9 w9 hown9 hgrow9 hat9 hlt9
      replace HV := Lib.hid (HV.out.push hown9 hgrow9)
      clear hown9 hgrow9 hat9 hlt9
      refine hK.out _ _ ⟨HV.out.mb.cell 1 rfl, HV.out.mb.cell 4 rfl, HV.out.mb.cell 6 rfl, HV.out.mb.cell 7 rfl, HV.out.mb.cell 8 rfl⟩ (fun hHeld => ?_)
      clear hK; try clear KK
      try simp only [Act.put, List.setIfInBounds_toArray, List.set_cons_zero, List.set_cons_succ]
      refine wpAnyH_take (i := 21) (oi := ⟨some 65, _, _, _, _, _⟩) (v := (.pointer (some ⟨R, 0, none⟩))) rfl (by kernel_rfl) (by kernel_rfl) (by kernel_rfl) (fun _ _ _ h => h) (Or.inl ⟨by rfl, fun w hSw => by (try dsimp only at hSw); go_simp⟩) (by assumption) ?_
      simp only [Act.put, List.setIfInBounds_toArray, List.set_cons_zero, List.set_cons_succ]
      refine wpAnyH_take (i := 22) (oi := ⟨some 66, _, _, _, _, _⟩) (v := (.pointer (some ⟨R, 0, none⟩))) rfl (by kernel_rfl) (by kernel_rfl) (by kernel_rfl) (fun _ _ _ h => h) (Or.inl ⟨by rfl, fun w hSw => by (try dsimp only at hSw); go_simp⟩) (by assumption) ?_
      simp only [Act.put, List.setIfInBounds_toArray, List.set_cons_zero, List.set_cons_succ]
      refine wpAnyH_ready (rs := [23]) (by kernel_rfl) (by simp) ?_
      refine AllReadyH.cons (o := ⟨none, _, _, _, _, _⟩) rfl (fun KK hK => ?_) AllReadyH.nil
      have cR9 := (HR0.out.below HV.out.bel HR0.out.lt).cell 0 rfl
      have fR : w9.frozen? ⟨R, 0, none⟩ = false := (HR0.out.below HV.out.bel HR0.out.lt).free 0
      have HEND := Lib.hid (show RS N (w9.setCell ⟨R, 0, none⟩ (.slice (some ⟨g9, 0, none⟩) (L.length + 1) cap9)) R (L ++ [((m.sym, m.id), ⟨m.code, m.price, m.qty⟩)]) ∧ Chg w.heap.size R w (w9.setCell ⟨R, 0, none⟩ (.slice (some ⟨g9, 0, none⟩) (L.length + 1) cap9)) ∧ Blk (w9.setCell ⟨R, 0, none⟩ (.slice (some ⟨g9, 0, none⟩) (L.length + 1) cap9)) w.heap.size m.cells 66 from HV.out.done HR0.out hRN hN _ rfl)
      go_simp
      change KK _ (w9.setCell ⟨R, 0, none⟩ (.slice (some ⟨g9, 0, none⟩) (L.length + 1) cap9))
      generalize w9.setCell ⟨R, 0, none⟩ (.slice (some ⟨g9, 0, none⟩) (L.length + 1) cap9) = w10 at HEND ⊢
      refine hK.out _ _ ⟨HEND.out.2.2.cell 1 rfl, HEND.out.2.2.cell 4 rfl, HEND.out.2.2.cell 6 rfl, HEND.out.2.2.cell 7 rfl, HEND.out.2.2.cell 8 rfl⟩ (fun hHeld => ?_)
      clear hK; try clear KK
      refine wpAnyH_done (by kernel_rfl) ?_ _
      go_wp2_with fail
      go_ret
      exact ⟨by (show Ending.returned (.bool true) = _; rw [HE.out]), by rw [HE.out]; exact HEND.out.1, HEND.out.2.1⟩
  · have cR : W2.cell? ⟨R, 0, none⟩ = some (.slice (some ⟨g0, 0, none⟩) L.length cap0) := by rw [HA.out.bel.cell (p := ⟨R, 0, none⟩) HR0.out.lt]; exact HR0.out.cell 0 rfl
    go_simp
    clear cR
    refine hK.out _ _ ⟨HA.out.mb.cell 1 rfl, HA.out.mb.cell 4 rfl, HA.out.mb.cell 6 rfl, HA.out.mb.cell 7 rfl, HA.out.mb.cell 8 rfl⟩ (fun hHeld => ?_)
    clear hK; try clear KK
    try simp only [Act.put, List.setIfInBounds_toArray, List.set_cons_zero, List.set_cons_succ]
    refine wpAnyH_ready (rs := [1, 19]) (by kernel_rfl) (by simp) ?_
    refine AllReadyH.cons (o := ⟨some 45, _, _, _, _, _⟩) rfl (fun KK hK => ?_) (AllReadyH.cons (o := ⟨some 63, _, _, _, _, _⟩) rfl (fun KK hK => ?_) (AllReadyH.nil))
    · go_simp
      change KK _ (W2.alloc (.cells #[] 172))
      replace HA := Lib.hid HA.out.alloc_e
      generalize W2.alloc (.cells #[] 172) = W10 at HA ⊢
      generalize W2.heap.size = e1 at HA ⊢
      refine hK.out _ _ ⟨HA.out.mb.cell 1 rfl, HA.out.mb.cell 4 rfl, HA.out.mb.cell 6 rfl, HA.out.mb.cell 7 rfl, HA.out.mb.cell 8 rfl⟩ (fun hHeld => ?_)
      clear hK; try clear KK
      try simp only [Act.put, List.setIfInBounds_toArray, List.set_cons_zero, List.set_cons_succ]
      refine wpAnyH_ready (rs := [6, 19]) (by kernel_rfl) (by simp) ?_
      refine AllReadyH.cons (o := ⟨some 50, _, _, _, _, _⟩) rfl (fun KK hK => ?_) (AllReadyH.cons (o := ⟨some 63, _, _, _, _, _⟩) rfl (fun KK hK => ?_) (AllReadyH.nil))
      · refine step_append_lies _ (by rfl) _ _ _ (by rfl) (w.heap.size + 1) 172 i0 (.agg rowZ) 8 64 Try.underlying72 hi0 hz0 hz1 hz2 (by rfl) (by decide) _ 0 [] (by rfl) (HA.out.er e1 rfl) ⟨g0, 0, none⟩ L.length cap0 (rowsR L) (by rfl) (flat_len rowC 8 rowC_size L) (fun j u hu => (HA.out.bel.cell (p := (⟨g0, 0, none⟩ : Addr).add j) (by simp only [Addr.add]; split <;> exact hg0)).trans (HNEW.out j u hu)) HONE.out hLp (by unfold maxLen; omega) (by omega) HA.out.le W10.heap.size rfl ?_
        intro g cap W11 hown hgrow hat hlt
        rw [Nat.zero_add]
        have HV := Lib.hid (HA.out.grow hown hgrow hat)
        clear hown hgrow hat hlt HA
        refine hK.out _ _ ⟨HV.out.mb.cell 1 rfl, HV.out.mb.cell 4 rfl, HV.out.mb.cell 6 rfl, HV.out.mb.cell 7 rfl, HV.out.mb.cell 8 rfl⟩ (fun hHeld => ?_)
        clear hK; try clear KK
        try simp only [Act.put, List.setIfInBounds_toArray, List.set_cons_zero, List.set_cons_succ]
        refine wpAnyH_ready (rs := [19]) (by kernel_rfl) (by simp) ?_
        refine AllReadyH.cons (o := ⟨some 63, _, _, _, _, _⟩) rfl (fun KK hK => ?_) AllReadyH.nil
        go_simp
        change KK _ (W11.alloc (.cells (rowC ((m.sym, m.id), ⟨m.code, m.price, m.qty⟩)) 172))
        replace HV := Lib.hid HV.out.alloc_n
        generalize W11.alloc (.cells (rowC ((m.sym, m.id), ⟨m.code, m.price, m.qty⟩)) 172) = W12 at HV ⊢
        generalize W11.heap.size = nb1 at HV ⊢
        refine hK.out _ _ ⟨HV.out.mb.cell 1 rfl, HV.out.mb.cell 4 rfl, HV.out.mb.cell 6 rfl, HV.out.mb.cell 7 rfl, HV.out.mb.cell 8 rfl⟩ (fun hHeld => ?_)
        clear hK; try clear KK
        try simp only [Act.put, List.setIfInBounds_toArray, List.set_cons_zero, List.set_cons_succ]
        refine wpAnyH_ready (rs := [20]) (by kernel_rfl) (by simp) ?_
        refine AllReadyH.cons (o := ⟨some 64, _, _, _, _, _⟩) rfl (fun KK hK => ?_) AllReadyH.nil
        refine step_append_lies _ (by rfl) _ _ _ (by rfl) (w.heap.size + 1) 172 i0 (.agg rowZ) 8 64 Try.underlying72 hi0 hz0 hz1 hz2 (by rfl) (by decide) _ L.length (rowsR L) (by rfl) HV.out.own ⟨nb1, 0, none⟩ 1 1 (rowC ((m.sym, m.id), ⟨m.code, m.price, m.qty⟩)).toList (by rfl) (by rfl) (news_blk (HV.out.nr nb1 rfl).1) (one_mem (one_row _)) (by decide) (by unfold maxLen; (try simp only [List.length_nil]); omega) (by (try simp only [List.length_nil]); omega) HV.out.le W12.heap.size rfl ?_
        intro g9 cap9 w9 hown9 hgrow9 hat9 hlt9
        replace HV := Lib.hid (HV.out.push hown9 hgrow9)
        clear hown9 hgrow9 hat9 hlt9
        refine hK.out _ _ ⟨HV.out.mb.cell 1 rfl, HV.out.mb.cell 4 rfl, HV.out.mb.cell 6 rfl, HV.out.mb.cell 7 rfl, HV.out.mb.cell 8 rfl⟩ (fun hHeld => ?_)
        clear hK; try clear KK
        try simp only [Act.put, List.setIfInBounds_toArray, List.set_cons_zero, List.set_cons_succ]
        refine wpAnyH_take (i := 21) (oi := ⟨some 65, _, _, _, _, _⟩) (v := (.pointer (some ⟨R, 0, none⟩))) rfl (by kernel_rfl) (by kernel_rfl) (by kernel_rfl) (fun _ _ _ h => h) (Or.inl ⟨by rfl, fun w hSw => by (try dsimp only at hSw); go_simp⟩) (by assumption) ?_
        simp only [Act.put, List.setIfInBounds_toArray, List.set_cons_zero, List.set_cons_succ]
        refine wpAnyH_take (i := 22) (oi := ⟨some 66, _, _, _, _, _⟩) (v := (.pointer (some ⟨R, 0, none⟩))) rfl (by kernel_rfl) (by kernel_rfl) (by kernel_rfl) (fun _ _ _ h => h) (Or.inl ⟨by rfl, fun w hSw => by (try dsimp only at hSw); go_simp⟩) (by assumption) ?_
        simp only [Act.put, List.setIfInBounds_toArray, List.set_cons_zero, List.set_cons_succ]
        refine wpAnyH_ready (rs := [23]) (by kernel_rfl) (by simp) ?_
        refine AllReadyH.cons (o := ⟨none, _, _, _, _, _⟩) rfl (fun KK hK => ?_) AllReadyH.nil
        have cR9 := (HR0.out.below HV.out.bel HR0.out.lt).cell 0 rfl
        have fR : w9.frozen? ⟨R, 0, none⟩ = false := (HR0.out.below HV.out.bel HR0.out.lt).free 0
        have HEND := Lib.hid (show RS N (w9.setCell ⟨R, 0, none⟩ (.slice (some ⟨g9, 0, none⟩) (L.length + 1) cap9)) R (L ++ [((m.sym, m.id), ⟨m.code, m.price, m.qty⟩)]) ∧ Chg w.heap.size R w (w9.setCell ⟨R, 0, none⟩ (.slice (some ⟨g9, 0, none⟩) (L.length + 1) cap9)) ∧ Blk (w9.setCell ⟨R, 0, none⟩ (.slice (some ⟨g9, 0, none⟩) (L.length + 1) cap9)) w.heap.size m.cells 66 from HV.out.done HR0.out hRN hN _ rfl)
        go_simp
        change KK _ (w9.setCell ⟨R, 0, none⟩ (.slice (some ⟨g9, 0, none⟩) (L.length + 1) cap9))
        generalize w9.setCell ⟨R, 0, none⟩ (.slice (some ⟨g9, 0, none⟩) (L.length + 1) cap9) = w10 at HEND ⊢
        refine hK.out _ _ ⟨HEND.out.2.2.cell 1 rfl, HEND.out.2.2.cell 4 rfl, HEND.out.2.2.cell 6 rfl, HEND.out.2.2.cell 7 rfl, HEND.out.2.2.cell 8 rfl⟩ (fun hHeld => ?_)
        clear hK; try clear KK
        refine wpAnyH_done (by kernel_rfl) ?_ _
        go_wp2_with fail
        go_ret
        exact ⟨by (show Ending.returned (.bool true) = _; rw [HE.out]), by rw [HE.out]; exact HEND.out.1, HEND.out.2.1⟩
      · go_simp
        change KK _ (W10.alloc (.cells (rowC ((m.sym, m.id), ⟨m.code, m.price, m.qty⟩)) 172))
        replace HA := Lib.hid HA.out.alloc_n
        generalize W10.alloc (.cells (rowC ((m.sym, m.id), ⟨m.code, m.price, m.qty⟩)) 172) = W13 at HA ⊢
        generalize W10.heap.size = nb1 at HA ⊢
        refine hK.out _ _ ⟨HA.out.mb.cell 1 rfl, HA.out.mb.cell 4 rfl, HA.out.mb.cell 6 rfl, HA.out.mb.cell 7 rfl, HA.out.mb.cell 8 rfl⟩ (fun hHeld => ?_)
        clear hK; try clear KK
        try simp only [Act.put, List.setIfInBounds_toArray, List.set_cons_zero, List.set_cons_succ]
        refine wpAnyH_ready (rs := [6]) (by kernel_rfl) (by simp) ?_
        refine AllReadyH.cons (o := ⟨some 50, _, _, _, _, _⟩) rfl (fun KK hK => ?_) AllReadyH.nil
        refine step_append_lies _ (by rfl) _ _ _ (by rfl) (w.heap.size + 1) 172 i0 (.agg rowZ) 8 64 Try.underlying72 hi0 hz0 hz1 hz2 (by rfl) (by decide) _ 0 [] (by rfl) (HA.out.er e1 rfl) ⟨g0, 0, none⟩ L.length cap0 (rowsR L) (by rfl) (flat_len rowC 8 rowC_size L) (fun j u hu => (HA.out.bel.cell (p := (⟨g0, 0, none⟩ : Addr).add j) (by simp only [Addr.add]; split <;> exact hg0)).trans (HNEW.out j u hu)) HONE.out hLp (by unfold maxLen; omega) (by omega) HA.out.le W13.heap.size rfl ?_
        intro g cap W14 hown hgrow hat hlt
        rw [Nat.zero_add]
        have HV := Lib.hid (HA.out.grow hown hgrow hat)
        clear hown hgrow hat hlt HA
        refine hK.out _ _ ⟨HV.out.mb.cell 1 rfl, HV.out.mb.cell 4 rfl, HV.out.mb.cell 6 rfl, HV.out.mb.cell 7 rfl, HV.out.mb.cell 8 rfl⟩ (fun hHeld => ?_)
        clear hK; try clear KK
        try simp only [Act.put, List.setIfInBounds_toArray, List.set_cons_zero, List.set_cons_succ]
        refine wpAnyH_ready (rs := [20]) (by kernel_rfl) (by simp) ?_
        refine AllReadyH.cons (o := ⟨some 64, _, _, _, _, _⟩) rfl (fun KK hK => ?_) AllReadyH.nil
        refine step_append_lies _ (by rfl) _ _ _ (by rfl) (w.heap.size + 1) 172 i0 (.agg rowZ) 8 64 Try.underlying72 hi0 hz0 hz1 hz2 (by rfl) (by decide) _ L.length (rowsR L) (by rfl) HV.out.own ⟨nb1, 0, none⟩ 1 1 (rowC ((m.sym, m.id), ⟨m.code, m.price, m.qty⟩)).toList (by rfl) (by rfl) (news_blk (HV.out.nr nb1 rfl).1) (one_mem (one_row _)) (by decide) (by unfold maxLen; (try simp only [List.length_nil]); omega) (by (try simp only [List.length_nil]); omega) HV.out.le W14.heap.size rfl ?_
        intro g9 cap9 w9 hown9 hgrow9 hat9 hlt9
        replace HV := Lib.hid (HV.out.push hown9 hgrow9)
        clear hown9 hgrow9 hat9 hlt9
        refine hK.out _ _ ⟨HV.out.mb.cell 1 rfl, HV.out.mb.cell 4 rfl, HV.out.mb.cell 6 rfl, HV.out.mb.cell 7 rfl, HV.out.mb.cell 8 rfl⟩ (fun hHeld => ?_)
        clear hK; try clear KK
        try simp only [Act.put, List.setIfInBounds_toArray, List.set_cons_zero, List.set_cons_succ]
        refine wpAnyH_take (i := 21) (oi := ⟨some 65, _, _, _, _, _⟩) (v := (.pointer (some ⟨R, 0, none⟩))) rfl (by kernel_rfl) (by kernel_rfl) (by kernel_rfl) (fun _ _ _ h => h) (Or.inl ⟨by rfl, fun w hSw => by (try dsimp only at hSw); go_simp⟩) (by assumption) ?_
        simp only [Act.put, List.setIfInBounds_toArray, List.set_cons_zero, List.set_cons_succ]
        refine wpAnyH_take (i := 22) (oi := ⟨some 66, _, _, _, _, _⟩) (v := (.pointer (some ⟨R, 0, none⟩))) rfl (by kernel_rfl) (by kernel_rfl) (by kernel_rfl) (fun _ _ _ h => h) (Or.inl ⟨by rfl, fun w hSw => by (try dsimp only at hSw); go_simp⟩) (by assumption) ?_
        simp only [Act.put, List.setIfInBounds_toArray, List.set_cons_zero, List.set_cons_succ]
        refine wpAnyH_ready (rs := [23]) (by kernel_rfl) (by simp) ?_
        refine AllReadyH.cons (o := ⟨none, _, _, _, _, _⟩) rfl (fun KK hK => ?_) AllReadyH.nil
        have cR9 := (HR0.out.below HV.out.bel HR0.out.lt).cell 0 rfl
        have fR : w9.frozen? ⟨R, 0, none⟩ = false := (HR0.out.below HV.out.bel HR0.out.lt).free 0
        have HEND := Lib.hid (show RS N (w9.setCell ⟨R, 0, none⟩ (.slice (some ⟨g9, 0, none⟩) (L.length + 1) cap9)) R (L ++ [((m.sym, m.id), ⟨m.code, m.price, m.qty⟩)]) ∧ Chg w.heap.size R w (w9.setCell ⟨R, 0, none⟩ (.slice (some ⟨g9, 0, none⟩) (L.length + 1) cap9)) ∧ Blk (w9.setCell ⟨R, 0, none⟩ (.slice (some ⟨g9, 0, none⟩) (L.length + 1) cap9)) w.heap.size m.cells 66 from HV.out.done HR0.out hRN hN _ rfl)
        go_simp
        change KK _ (w9.setCell ⟨R, 0, none⟩ (.slice (some ⟨g9, 0, none⟩) (L.length + 1) cap9))
        generalize w9.setCell ⟨R, 0, none⟩ (.slice (some ⟨g9, 0, none⟩) (L.length + 1) cap9) = w10 at HEND ⊢
        refine hK.out _ _ ⟨HEND.out.2.2.cell 1 rfl, HEND.out.2.2.cell 4 rfl, HEND.out.2.2.cell 6 rfl, HEND.out.2.2.cell 7 rfl, HEND.out.2.2.cell 8 rfl⟩ (fun hHeld => ?_)
        clear hK; try clear KK
        refine wpAnyH_done (by kernel_rfl) ?_ _
        go_wp2_with fail
        go_ret
        exact ⟨by (show Ending.returned (.bool true) = _; rw [HE.out]), by rw [HE.out]; exact HEND.out.1, HEND.out.2.1⟩
    · go_simp
      change KK _ (W2.alloc (.cells (rowC ((m.sym, m.id), ⟨m.code, m.price, m.qty⟩)) 172))
      replace HA := Lib.hid HA.out.alloc_n
      generalize W2.alloc (.cells (rowC ((m.sym, m.id), ⟨m.code, m.price, m.qty⟩)) 172) = W15 at HA ⊢
      generalize W2.heap.size = nb1 at HA ⊢
      refine hK.out _ _ ⟨HA.out.mb.cell 1 rfl, HA.out.mb.cell 4 rfl, HA.out.mb.cell 6 rfl, HA.out.mb.cell 7 rfl, HA.out.mb.cell 8 rfl⟩ (fun hHeld => ?_)
      clear hK; try clear KK
      try simp only [Act.put, List.setIfInBounds_toArray, List.set_cons_zero, List.set_cons_succ]
      refine wpAnyH_ready (rs := [1]) (by kernel_rfl) (by simp) ?_
      refine AllReadyH.cons (o := ⟨some 45, _, _, _, _, _⟩) rfl (fun KK hK => ?_) AllReadyH.nil
      go_simp
      change KK _ (W15.alloc (.cells #[] 172))
      replace HA := Lib.hid HA.out.alloc_e
      generalize W15.alloc (.cells #[] 172) = W16 at HA ⊢
      generalize W15.heap.size = e1 at HA ⊢
      refine hK.out _ _ ⟨HA.out.mb.cell 1 rfl, HA.out.mb.cell 4 rfl, HA.out.mb.cell 6 rfl, HA.out.mb.cell 7 rfl, HA.out.mb.cell 8 rfl⟩ (fun hHeld => ?_)
      clear hK; try clear KK
      try simp only [Act.put, List.setIfInBounds_toArray, List.set_cons_zero, List.set_cons_succ]
      refine wpAnyH_ready (rs := [6]) (by kernel_rfl) (by simp) ?_
      refine AllReadyH.cons (o := ⟨some 50, _, _, _, _, _⟩) rfl (fun KK hK => ?_) AllReadyH.nil
      refine step_append_lies _ (by rfl) _ _ _ (by rfl) (w.heap.size + 1) 172 i0 (.agg rowZ) 8 64 Try.underlying72 hi0 hz0 hz1 hz2 (by rfl) (by decide) _ 0 [] (by rfl) (HA.out.er e1 rfl) ⟨g0, 0, none⟩ L.length cap0 (rowsR L) (by rfl) (flat_len rowC 8 rowC_size L) (fun j u hu => (HA.out.bel.cell (p := (⟨g0, 0, none⟩ : Addr).add j) (by simp only [Addr.add]; split <;> exact hg0)).trans (HNEW.out j u hu)) HONE.out hLp (by unfold maxLen; omega) (by omega) HA.out.le W16.heap.size rfl ?_
      intro g cap W17 hown hgrow hat hlt
      rw [Nat.zero_add]
      have HV := Lib.hid (HA.out.grow hown hgrow hat)
      clear hown hgrow hat hlt HA
      refine hK.out _ _ ⟨HV.out.mb.cell 1 rfl, HV.out.mb.cell 4 rfl, HV.out.mb.cell 6 rfl, HV.out.mb.cell 7 rfl, HV.out.mb.cell 8 rfl⟩ (fun hHeld => ?_)
      clear hK; try clear KK
      try simp only [Act.put, List.setIfInBounds_toArray, List.set_cons_zero, List.set_cons_succ]
      refine wpAnyH_ready (rs := [20]) (by kernel_rfl) (by simp) ?_
      refine AllReadyH.cons (o := ⟨some 64, _, _, _, _, _⟩) rfl (fun KK hK => ?_) AllReadyH.nil
      refine step_append_lies _ (by rfl) _ _ _ (by rfl) (w.heap.size + 1) 172 i0 (.agg rowZ) 8 64 Try.underlying72 hi0 hz0 hz1 hz2 (by rfl) (by decide) _ L.length (rowsR L) (by rfl) HV.out.own ⟨nb1, 0, none⟩ 1 1 (rowC ((m.sym, m.id), ⟨m.code, m.price, m.qty⟩)).toList (by rfl) (by rfl) (news_blk (HV.out.nr nb1 rfl).1) (one_mem (one_row _)) (by decide) (by unfold maxLen; (try simp only [List.length_nil]); omega) (by (try simp only [List.length_nil]); omega) HV.out.le W17.heap.size rfl ?_
      intro g9 cap9 w9 hown9 hgrow9 hat9 hlt9
      replace HV := Lib.hid (HV.out.push hown9 hgrow9)
      clear hown9 hgrow9 hat9 hlt9
      refine hK.out _ _ ⟨HV.out.mb.cell 1 rfl, HV.out.mb.cell 4 rfl, HV.out.mb.cell 6 rfl, HV.out.mb.cell 7 rfl, HV.out.mb.cell 8 rfl⟩ (fun hHeld => ?_)
      clear hK; try clear KK
      try simp only [Act.put, List.setIfInBounds_toArray, List.set_cons_zero, List.set_cons_succ]
      refine wpAnyH_take (i := 21) (oi := ⟨some 65, _, _, _, _, _⟩) (v := (.pointer (some ⟨R, 0, none⟩))) rfl (by kernel_rfl) (by kernel_rfl) (by kernel_rfl) (fun _ _ _ h => h) (Or.inl ⟨by rfl, fun w hSw => by (try dsimp only at hSw); go_simp⟩) (by assumption) ?_
      simp only [Act.put, List.setIfInBounds_toArray, List.set_cons_zero, List.set_cons_succ]
      refine wpAnyH_take (i := 22) (oi := ⟨some 66, _, _, _, _, _⟩) (v := (.pointer (some ⟨R, 0, none⟩))) rfl (by kernel_rfl) (by kernel_rfl) (by kernel_rfl) (fun _ _ _ h => h) (Or.inl ⟨by rfl, fun w hSw => by (try dsimp only at hSw); go_simp⟩) (by assumption) ?_
      simp only [Act.put, List.setIfInBounds_toArray, List.set_cons_zero, List.set_cons_succ]
      refine wpAnyH_ready (rs := [23]) (by kernel_rfl) (by simp) ?_
      refine AllReadyH.cons (o := ⟨none, _, _, _, _, _⟩) rfl (fun KK hK => ?_) AllReadyH.nil
      have cR9 := (HR0.out.below HV.out.bel HR0.out.lt).cell 0 rfl
      have fR : w9.frozen? ⟨R, 0, none⟩ = false := (HR0.out.below HV.out.bel HR0.out.lt).free 0
      have HEND := Lib.hid (show RS N (w9.setCell ⟨R, 0, none⟩ (.slice (some ⟨g9, 0, none⟩) (L.length + 1) cap9)) R (L ++ [((m.sym, m.id), ⟨m.code, m.price, m.qty⟩)]) ∧ Chg w.heap.size R w (w9.setCell ⟨R, 0, none⟩ (.slice (some ⟨g9, 0, none⟩) (L.length + 1) cap9)) ∧ Blk (w9.setCell ⟨R, 0, none⟩ (.slice (some ⟨g9, 0, none⟩) (L.length + 1) cap9)) w.heap.size m.cells 66 from HV.out.done HR0.out hRN hN _ rfl)
      go_simp
      change KK _ (w9.setCell ⟨R, 0, none⟩ (.slice (some ⟨g9, 0, none⟩) (L.length + 1) cap9))
      generalize w9.setCell ⟨R, 0, none⟩ (.slice (some ⟨g9, 0, none⟩) (L.length + 1) cap9) = w10 at HEND ⊢
      refine hK.out _ _ ⟨HEND.out.2.2.cell 1 rfl, HEND.out.2.2.cell 4 rfl, HEND.out.2.2.cell 6 rfl, HEND.out.2.2.cell 7 rfl, HEND.out.2.2.cell 8 rfl⟩ (fun hHeld => ?_)
      clear hK; try clear KK
      refine wpAnyH_done (by kernel_rfl) ?_ _
      go_wp2_with fail
      go_ret
      exact ⟨by (show Ending.returned (.bool true) = _; rw [HE.out]), by rw [HE.out]; exact HEND.out.1, HEND.out.2.1⟩
  · go_simp
    change KK _ (W2.alloc (.cells (rowC ((m.sym, m.id), ⟨m.code, m.price, m.qty⟩)) 172))
    replace HA := Lib.hid HA.out.alloc_n
    generalize W2.alloc (.cells (rowC ((m.sym, m.id), ⟨m.code, m.price, m.qty⟩)) 172) = W18 at HA ⊢
    generalize W2.heap.size = nb1 at HA ⊢
    refine hK.out _ _ ⟨HA.out.mb.cell 1 rfl, HA.out.mb.cell 4 rfl, HA.out.mb.cell 6 rfl, HA.out.mb.cell 7 rfl, HA.out.mb.cell 8 rfl⟩ (fun hHeld => ?_)
    clear hK; try clear KK
    try simp only [Act.put, List.setIfInBounds_toArray, List.set_cons_zero, List.set_cons_succ]
    refine wpAnyH_ready (rs := [1, 5]) (by kernel_rfl) (by simp) ?_
    refine AllReadyH.cons (o := ⟨some 45, _, _, _, _, _⟩) rfl (fun KK hK => ?_) (AllReadyH.cons (o := ⟨some 49, _, _, _, _, _⟩) rfl (fun KK hK => ?_) (AllReadyH.nil))
    · go_simp
      change KK _ (W18.alloc (.cells #[] 172))
      replace HA := Lib.hid HA.out.alloc_e
      generalize W18.alloc (.cells #[] 172) = W19 at HA ⊢
      generalize W18.heap.size = e1 at HA ⊢
      refine hK.out _ _ ⟨HA.out.mb.cell 1 rfl, HA.out.mb.cell 4 rfl, HA.out.mb.cell 6 rfl, HA.out.mb.cell 7 rfl, HA.out.mb.cell 8 rfl⟩ (fun hHeld => ?_)
      clear hK; try clear KK
      try simp only [Act.put, List.setIfInBounds_toArray, List.set_cons_zero, List.set_cons_succ]
      refine wpAnyH_ready (rs := [5]) (by kernel_rfl) (by simp) ?_
      refine AllReadyH.cons (o := ⟨some 49, _, _, _, _, _⟩) rfl (fun KK hK => ?_) AllReadyH.nil
      have cR : W19.cell? ⟨R, 0, none⟩ = some (.slice (some ⟨g0, 0, none⟩) L.length cap0) := by rw [HA.out.bel.cell (p := ⟨R, 0, none⟩) HR0.out.lt]; exact HR0.out.cell 0 rfl
      go_simp
      clear cR
      refine hK.out _ _ ⟨HA.out.mb.cell 1 rfl, HA.out.mb.cell 4 rfl, HA.out.mb.cell 6 rfl, HA.out.mb.cell 7 rfl, HA.out.mb.cell 8 rfl⟩ (fun hHeld => ?_)
      clear hK; try clear KK
      try simp only [Act.put, List.setIfInBounds_toArray, List.set_cons_zero, List.set_cons_succ]
      refine wpAnyH_ready (rs := [6]) (by kernel_rfl) (by simp) ?_
      refine AllReadyH.cons (o := ⟨some 50, _, _, _, _, _⟩) rfl (fun KK hK => ?_) AllReadyH.nil
      refine step_append_lies _ (by rfl) _ _ _ (by rfl) (w.heap.size + 1) 172 i0 (.agg rowZ) 8 64 Try.underlying72 hi0 hz0 hz1 hz2 (by rfl) (by decide) _ 0 [] (by rfl) (HA.out.er e1 rfl) ⟨g0, 0, none⟩ L.length cap0 (rowsR L) (by rfl) (flat_len rowC 8 rowC_size L) (fun j u hu => (HA.out.bel.cell (p := (⟨g0, 0, none⟩ : Addr).add j) (by simp only [Addr.add]; split <;> exact hg0)).trans (HNEW.out j u hu)) HONE.out hLp (by unfold maxLen; omega) (by omega) HA.out.le W19.heap.size rfl ?_
      intro g cap W20 hown hgrow hat hlt
      rw [Nat.zero_add]
      have HV := Lib.hid (HA.out.grow hown hgrow hat)
      clear hown hgrow hat hlt HA
      refine hK.out _ _ ⟨HV.out.mb.cell 1 rfl, HV.out.mb.cell 4 rfl, HV.out.mb.cell 6 rfl, HV.out.mb.cell 7 rfl, HV.out.mb.cell 8 rfl⟩ (fun hHeld => ?_)
      clear hK; try clear KK
      try simp only [Act.put, List.setIfInBounds_toArray, List.set_cons_zero, List.set_cons_succ]
      refine wpAnyH_ready (rs := [20]) (by kernel_rfl) (by simp) ?_
      refine AllReadyH.cons (o := ⟨some 64, _, _, _, _, _⟩) rfl (fun KK hK => ?_) AllReadyH.nil
      refine step_append_lies _ (by rfl) _ _ _ (by rfl) (w.heap.size + 1) 172 i0 (.agg rowZ) 8 64 Try.underlying72 hi0 hz0 hz1 hz2 (by rfl) (by decide) _ L.length (rowsR L) (by rfl) HV.out.own ⟨nb1, 0, none⟩ 1 1 (rowC ((m.sym, m.id), ⟨m.code, m.price, m.qty⟩)).toList (by rfl) (by rfl) (news_blk (HV.out.nr nb1 rfl).1) (one_mem (one_row _)) (by decide) (by unfold maxLen; (try simp only [List.length_nil]); omega) (by (try simp only [List.length_nil]); omega) HV.out.le W20.heap.size rfl ?_
      intro g9 cap9 w9 hown9 hgrow9 hat9 hlt9
      replace HV := Lib.hid (HV.out.push hown9 hgrow9)
      clear hown9 hgrow9 hat9 hlt9
      refine hK.out _ _ ⟨HV.out.mb.cell 1 rfl, HV.out.mb.cell 4 rfl, HV.out.mb.cell 6 rfl, HV.out.mb.cell 7 rfl, HV.out.mb.cell 8 rfl⟩ (fun hHeld => ?_)
      clear hK; try clear KK
      try simp only [Act.put, List.setIfInBounds_toArray, List.set_cons_zero, List.set_cons_succ]
      refine wpAnyH_take (i := 21) (oi := ⟨some 65, _, _, _, _, _⟩) (v := (.pointer (some ⟨R, 0, none⟩))) rfl (by kernel_rfl) (by kernel_rfl) (by kernel_rfl) (fun _ _ _ h => h) (Or.inl ⟨by rfl, fun w hSw => by (try dsimp only at hSw); go_simp⟩) (by assumption) ?_
      simp only [Act.put, List.setIfInBounds_toArray, List.set_cons_zero, List.set_cons_succ]
      refine wpAnyH_take (i := 22) (oi := ⟨some 66, _, _, _, _, _⟩) (v := (.pointer (some ⟨R, 0, none⟩))) rfl (by kernel_rfl) (by kernel_rfl) (by kernel_rfl) (fun _ _ _ h => h) (Or.inl ⟨by rfl, fun w hSw => by (try dsimp only at hSw); go_simp⟩) (by assumption) ?_
      simp only [Act.put, List.setIfInBounds_toArray, List.set_cons_zero, List.set_cons_succ]
      refine wpAnyH_ready (rs := [23]) (by kernel_rfl) (by simp) ?_
      refine AllReadyH.cons (o := ⟨none, _, _, _, _, _⟩) rfl (fun KK hK => ?_) AllReadyH.nil
      have cR9 := (HR0.out.below HV.out.bel HR0.out.lt).cell 0 rfl
      have fR : w9.frozen? ⟨R, 0, none⟩ = false := (HR0.out.below HV.out.bel HR0.out.lt).free 0
      have HEND := Lib.hid (show RS N (w9.setCell ⟨R, 0, none⟩ (.slice (some ⟨g9, 0, none⟩) (L.length + 1) cap9)) R (L ++ [((m.sym, m.id), ⟨m.code, m.price, m.qty⟩)]) ∧ Chg w.heap.size R w (w9.setCell ⟨R, 0, none⟩ (.slice (some ⟨g9, 0, none⟩) (L.length + 1) cap9)) ∧ Blk (w9.setCell ⟨R, 0, none⟩ (.slice (some ⟨g9, 0, none⟩) (L.length + 1) cap9)) w.heap.size m.cells 66 from HV.out.done HR0.out hRN hN _ rfl)
      go_simp
      change KK _ (w9.setCell ⟨R, 0, none⟩ (.slice (some ⟨g9, 0, none⟩) (L.length + 1) cap9))
      generalize w9.setCell ⟨R, 0, none⟩ (.slice (some ⟨g9, 0, none⟩) (L.length + 1) cap9) = w10 at HEND ⊢
      refine hK.out _ _ ⟨HEND.out.2.2.cell 1 rfl, HEND.out.2.2.cell 4 rfl, HEND.out.2.2.cell 6 rfl, HEND.out.2.2.cell 7 rfl, HEND.out.2.2.cell 8 rfl⟩ (fun hHeld => ?_)
      clear hK; try clear KK
      refine wpAnyH_done (by kernel_rfl) ?_ _
      go_wp2_with fail
      go_ret
      exact ⟨by (show Ending.returned (.bool true) = _; rw [HE.out]), by rw [HE.out]; exact HEND.out.1, HEND.out.2.1⟩
    · have cR : W18.cell? ⟨R, 0, none⟩ = some (.slice (some ⟨g0, 0, none⟩) L.length cap0) := by rw [HA.out.bel.cell (p := ⟨R, 0, none⟩) HR0.out.lt]; exact HR0.out.cell 0 rfl
      go_simp
      clear cR
      refine hK.out _ _ ⟨HA.out.mb.cell 1 rfl, HA.out.mb.cell 4 rfl, HA.out.mb.cell 6 rfl, HA.out.mb.cell 7 rfl, HA.out.mb.cell 8 rfl⟩ (fun hHeld => ?_)
      clear hK; try clear KK
      try simp only [Act.put, List.setIfInBounds_toArray, List.set_cons_zero, List.set_cons_succ]
      refine wpAnyH_ready (rs := [1]) (by kernel_rfl) (by simp) ?_
      refine AllReadyH.cons (o := ⟨some 45, _, _, _, _, _⟩) rfl (fun KK hK => ?_) AllReadyH.nil
      go_simp
      change KK _ (W18.alloc (.cells #[] 172))
      replace HA := Lib.hid HA.out.alloc_e
      generalize W18.alloc (.cells #[] 172) = W21 at HA ⊢
      generalize W18.heap.size = e1 at HA ⊢
      refine hK.out _ _ ⟨HA.out.mb.cell 1 rfl, HA.out.mb.cell 4 rfl, HA.out.mb.cell 6 rfl, HA.out.mb.cell 7 rfl, HA.out.mb.cell 8 rfl⟩ (fun hHeld => ?_)
      clear hK; try clear KK
      try simp only [Act.put, List.setIfInBounds_toArray, List.set_cons_zero, List.set_cons_succ]
      refine wpAnyH_ready (rs := [6]) (by kernel_rfl) (by simp) ?_
      refine AllReadyH.cons (o := ⟨some 50, _, _, _, _, _⟩) rfl (fun KK hK => ?_) AllReadyH.nil
      refine step_append_lies _ (by rfl) _ _ _ (by rfl) (w.heap.size + 1) 172 i0 (.agg rowZ) 8 64 Try.underlying72 hi0 hz0 hz1 hz2 (by rfl) (by decide) _ 0 [] (by rfl) (HA.out.er e1 rfl) ⟨g0, 0, none⟩ L.length cap0 (rowsR L) (by rfl) (flat_len rowC 8 rowC_size L) (fun j u hu => (HA.out.bel.cell (p := (⟨g0, 0, none⟩ : Addr).add j) (by simp only [Addr.add]; split <;> exact hg0)).trans (HNEW.out j u hu)) HONE.out hLp (by unfold maxLen; omega) (by omega) HA.out.le W21.heap.size rfl ?_
      intro g cap W22 hown hgrow hat hlt
      rw [Nat.zero_add]
      have HV := Lib.hid (HA.out.grow hown hgrow hat)
      clear hown hgrow hat hlt HA
      refine hK.out _ _ ⟨HV.out.mb.cell 1 rfl, HV.out.mb.cell 4 rfl, HV.out.mb.cell 6 rfl, HV.out.mb.cell 7 rfl, HV.out.mb.cell 8 rfl⟩ (fun hHeld => ?_)
      clear hK; try clear KK
      try simp only [Act.put, List.setIfInBounds_toArray, List.set_cons_zero, List.set_cons_succ]
      refine wpAnyH_ready (rs := [20]) (by kernel_rfl) (by simp) ?_
      refine AllReadyH.cons (o := ⟨some 64, _, _, _, _, _⟩) rfl (fun KK hK => ?_) AllReadyH.nil
      refine step_append_lies _ (by rfl) _ _ _ (by rfl) (w.heap.size + 1) 172 i0 (.agg rowZ) 8 64 Try.underlying72 hi0 hz0 hz1 hz2 (by rfl) (by decide) _ L.length (rowsR L) (by rfl) HV.out.own ⟨nb1, 0, none⟩ 1 1 (rowC ((m.sym, m.id), ⟨m.code, m.price, m.qty⟩)).toList (by rfl) (by rfl) (news_blk (HV.out.nr nb1 rfl).1) (one_mem (one_row _)) (by decide) (by unfold maxLen; (try simp only [List.length_nil]); omega) (by (try simp only [List.length_nil]); omega) HV.out.le W22.heap.size rfl ?_
      intro g9 cap9 w9 hown9 hgrow9 hat9 hlt9
      replace HV := Lib.hid (HV.out.push hown9 hgrow9)
      clear hown9 hgrow9 hat9 hlt9
      refine hK.out _ _ ⟨HV.out.mb.cell 1 rfl, HV.out.mb.cell 4 rfl, HV.out.mb.cell 6 rfl, HV.out.mb.cell 7 rfl, HV.out.mb.cell 8 rfl⟩ (fun hHeld => ?_)
      clear hK; try clear KK
      try simp only [Act.put, List.setIfInBounds_toArray, List.set_cons_zero, List.set_cons_succ]
      refine wpAnyH_take (i := 21) (oi := ⟨some 65, _, _, _, _, _⟩) (v := (.pointer (some ⟨R, 0, none⟩))) rfl (by kernel_rfl) (by kernel_rfl) (by kernel_rfl) (fun _ _ _ h => h) (Or.inl ⟨by rfl, fun w hSw => by (try dsimp only at hSw); go_simp⟩) (by assumption) ?_
      simp only [Act.put, List.setIfInBounds_toArray, List.set_cons_zero, List.set_cons_succ]
      refine wpAnyH_take (i := 22) (oi := ⟨some 66, _, _, _, _, _⟩) (v := (.pointer (some ⟨R, 0, none⟩))) rfl (by kernel_rfl) (by kernel_rfl) (by kernel_rfl) (fun _ _ _ h => h) (Or.inl ⟨by rfl, fun w hSw => by (try dsimp only at hSw); go_simp⟩) (by assumption) ?_
      simp only [Act.put, List.setIfInBounds_toArray, List.set_cons_zero, List.set_cons_succ]
      refine wpAnyH_ready (rs := [23]) (by kernel_rfl) (by simp) ?_
      refine AllReadyH.cons (o := ⟨none, _, _, _, _, _⟩) rfl (fun KK hK => ?_) AllReadyH.nil
      have cR9 := (HR0.out.below HV.out.bel HR0.out.lt).cell 0 rfl
      have fR : w9.frozen? ⟨R, 0, none⟩ = false := (HR0.out.below HV.out.bel HR0.out.lt).free 0
      have HEND := Lib.hid (show RS N (w9.setCell ⟨R, 0, none⟩ (.slice (some ⟨g9, 0, none⟩) (L.length + 1) cap9)) R (L ++ [((m.sym, m.id), ⟨m.code, m.price, m.qty⟩)]) ∧ Chg w.heap.size R w (w9.setCell ⟨R, 0, none⟩ (.slice (some ⟨g9, 0, none⟩) (L.length + 1) cap9)) ∧ Blk (w9.setCell ⟨R, 0, none⟩ (.slice (some ⟨g9, 0, none⟩) (L.length + 1) cap9)) w.heap.size m.cells 66 from HV.out.done HR0.out hRN hN _ rfl)
      go_simp
      change KK _ (w9.setCell ⟨R, 0, none⟩ (.slice (some ⟨g9, 0, none⟩) (L.length + 1) cap9))
      generalize w9.setCell ⟨R, 0, none⟩ (.slice (some ⟨g9, 0, none⟩) (L.length + 1) cap9) = w10 at HEND ⊢
      refine hK.out _ _ ⟨HEND.out.2.2.cell 1 rfl, HEND.out.2.2.cell 4 rfl, HEND.out.2.2.cell 6 rfl, HEND.out.2.2.cell 7 rfl, HEND.out.2.2.cell 8 rfl⟩ (fun hHeld => ?_)
      clear hK; try clear KK
      refine wpAnyH_done (by kernel_rfl) ?_ _
      go_wp2_with fail
      go_ret
      exact ⟨by (show Ending.returned (.bool true) = _; rw [HE.out]), by rw [HE.out]; exact HEND.out.1, HEND.out.2.1⟩
set_option maxRecDepth 20000 in
set_option maxHeartbeats 4000000 in
theorem ack_none1 (N R : Nat) (m : Msg) (w : World) (h : RS N w R []) (hN : N ≤ w.heap.size) (h1 : m.kind = 1) (hq : ¬ m.qty < 1) (hc : m.code = 0 ∨ m.code = 1) (c0 : (m.code != 0) = true) (c1 : (m.code != 1) = false)
    (hp1 : ¬ m.price < 1) (hp2 : ¬ 1099511627776 < m.price) :
    Calls Try.prog 38 #[.pointer (some ⟨R, 0, none⟩), .agg m.cells] w (RPutIs N R [] m w) := by
  have hk : mget (m.sym, m.id) ([] : List (Key × Rest)) = none := rfl
  have g1 : (m.kind == 1) = true := by simp [h1]
  have HE := Lib.hid (show putF ([] : List (Key × Rest)) m = (([] : List (Key × Rest)) ++ [((m.sym, m.id), ⟨m.code, m.price, m.qty⟩)], true) by
    have : 1 ≤ m.price ∧ m.price ≤ 1099511627776 := by omega
    simp [putF, h1, hk, hq, hc, this, mput_new hk])
  have HFE : findF ([] : List (Key × Rest)) (m.sym, m.id) = -1 := by simp [findF, hk]
  clear h1 hc hk
  obtain ⟨v0, hR0, hRN, hrow0, hnil0⟩ := id h
  have hv0 := hnil0 rfl
  subst hv0
  have HR0 := Lib.hid hR0
  obtain ⟨i0, hi0, hz0, hz1, hz2⟩ := info_parts infoRow
  clear hR0 hrow0 hnil0
  have HS := Lib.hid (rb_start m h hN)
  clear h
  have m0 : (w.alloc (.cells m.cells 66)).cell? ⟨w.heap.size, 0, none⟩ = some (.int .i64 m.kind) := HS.out.mb.cell 0 rfl
  have m1 : (w.alloc (.cells m.cells 66)).cell? ⟨w.heap.size, 1, none⟩ = some (.int .i64 m.sym) := HS.out.mb.cell 1 rfl
  have m4 : (w.alloc (.cells m.cells 66)).cell? ⟨w.heap.size, 4, none⟩ = some (.int .i64 m.id) := HS.out.mb.cell 4 rfl
  have m5 : (w.alloc (.cells m.cells 66)).cell? ⟨w.heap.size, 5, none⟩ = some (.int .i64 m.wth) := HS.out.mb.cell 5 rfl
  have m6 : (w.alloc (.cells m.cells 66)).cell? ⟨w.heap.size, 6, none⟩ = some (.int .i64 m.price) := HS.out.mb.cell 6 rfl
  have m7 : (w.alloc (.cells m.cells 66)).cell? ⟨w.heap.size, 7, none⟩ = some (.int .i64 m.qty) := HS.out.mb.cell 7 rfl
  have m8 : (w.alloc (.cells m.cells 66)).cell? ⟨w.heap.size, 8, none⟩ = some (.int .i64 m.code) := HS.out.mb.cell 8 rfl
  go_enter Try.func38, Try.ntmps38
  go_wp2_with fail
  refine (find_any N R _ m.sym m.id _ HS.out.rs).mono ?_
  rintro e w2 ⟨rfl, rfl⟩
  rw [HFE]
  clear m0 m1 m4 m5 m6 m7 m8
  go_upto_region 5 with fail
  have HA := Lib.hid (show AK w m ((m.sym, m.id), ⟨m.code, m.price, m.qty⟩) (w.alloc (.cells m.cells 66)) none none from ⟨(Below.refl _ _).alloc (Nat.le_refl _) _, Blk.new _ _ _ _ rfl, fun b hb => (by cases hb), fun b hb => (by cases hb)⟩)
  generalize w.alloc (.cells m.cells 66) = W1 at HS HA ⊢
  refine wp_region_held_drew (S := (fun w' => w'.cell? ⟨w.heap.size, 1, none⟩ = some (.int .i64 m.sym) ∧ w'.cell? ⟨w.heap.size, 4, none⟩ = some (.int .i64 m.id) ∧ w'.cell? ⟨w.heap.size, 6, none⟩ = some (.int .i64 m.price) ∧ w'.cell? ⟨w.heap.size, 7, none⟩ = some (.int .i64 m.qty) ∧ w'.cell? ⟨w.heap.size, 8, none⟩ = some (.int .i64 m.code))) (by kernel_rfl) ⟨HS.out.mb.cell 1 rfl, HS.out.mb.cell 4 rfl, HS.out.mb.cell 6 rfl, HS.out.mb.cell 7 rfl, HS.out.mb.cell 8 rfl⟩ (fun hHeld => ?_)
  clear HS
  replace HA := Lib.hid HA.out.drew
  generalize W1.drew = W2 at HA hHeld ⊢
  refine wpAnyH_take (i := 0) (oi := ⟨some 44, _, _, _, _, _⟩) (v := (.pointer (some ⟨R, 0, none⟩))) rfl (by kernel_rfl) (by kernel_rfl) (by kernel_rfl) (fun _ _ _ h => h) (Or.inl ⟨by rfl, fun w hSw => by (try dsimp only at hSw); go_simp⟩) (by assumption) ?_
  simp only [Act.put, List.setIfInBounds_toArray, List.set_cons_zero, List.set_cons_succ]
  refine wpAnyH_take (i := 2) (oi := ⟨some 46, _, _, _, _, _⟩) (v := (.pointer (some ⟨R, 0, none⟩))) rfl (by kernel_rfl) (by kernel_rfl) (by kernel_rfl) (fun _ _ _ h => h) (Or.inl ⟨by rfl, fun w hSw => by (try dsimp only at hSw); go_simp⟩) (by assumption) ?_
  simp only [Act.put, List.setIfInBounds_toArray, List.set_cons_zero, List.set_cons_succ]
  refine wpAnyH_take (i := 3) (oi := ⟨some 47, _, _, _, _, _⟩) (v := (.pointer (some ⟨R, 0, none⟩))) rfl (by kernel_rfl) (by kernel_rfl) (by kernel_rfl) (fun _ _ _ h => h) (Or.inl ⟨by rfl, fun w hSw => by (try dsimp only at hSw); go_simp⟩) (by assumption) ?_
  simp only [Act.put, List.setIfInBounds_toArray, List.set_cons_zero, List.set_cons_succ]
  refine wpAnyH_take (i := 4) (oi := ⟨some 48, _, _, _, _, _⟩) (v := (.pointer (some ⟨R, 0, none⟩))) rfl (by kernel_rfl) (by kernel_rfl) (by kernel_rfl) (fun _ _ _ h => h) (Or.inl ⟨by rfl, fun w hSw => by (try dsimp only at hSw); go_simp⟩) (by assumption) ?_
  simp only [Act.put, List.setIfInBounds_toArray, List.set_cons_zero, List.set_cons_succ]
  refine wpAnyH_take (i := 7) (oi := ⟨some 51, _, _, _, _, _⟩) (v := (.pointer (some ⟨w.heap.size, 1, none⟩))) rfl (by kernel_rfl) (by kernel_rfl) (by kernel_rfl) (fun _ _ _ h => h) (Or.inl ⟨by rfl, fun w hSw => by (try dsimp only at hSw); go_simp⟩) (by assumption) ?_
  simp only [Act.put, List.setIfInBounds_toArray, List.set_cons_zero, List.set_cons_succ]
  refine wpAnyH_take (i := 8) (oi := ⟨some 52, _, _, _, _, _⟩) (v := (.int .i64 m.sym)) rfl (by kernel_rfl) (by kernel_rfl) (by kernel_rfl) (fun _ _ _ h => h) (Or.inl ⟨by rfl, fun w hSw => by (try dsimp only at hSw); go_simp⟩) (by assumption) ?_
  simp only [Act.put, List.setIfInBounds_toArray, List.set_cons_zero, List.set_cons_succ]
  refine wpAnyH_take (i := 9) (oi := ⟨some 53, _, _, _, _, _⟩) (v := (.pointer (some ⟨w.heap.size, 4, none⟩))) rfl (by kernel_rfl) (by kernel_rfl) (by kernel_rfl) (fun _ _ _ h => h) (Or.inl ⟨by rfl, fun w hSw => by (try dsimp only at hSw); go_simp⟩) (by assumption) ?_
  simp only [Act.put, List.setIfInBounds_toArray, List.set_cons_zero, List.set_cons_succ]
  refine wpAnyH_take (i := 10) (oi := ⟨some 54, _, _, _, _, _⟩) (v := (.int .i64 m.id)) rfl (by kernel_rfl) (by kernel_rfl) (by kernel_rfl) (fun _ _ _ h => h) (Or.inl ⟨by rfl, fun w hSw => by (try dsimp only at hSw); go_simp⟩) (by assumption) ?_
  simp only [Act.put, List.setIfInBounds_toArray, List.set_cons_zero, List.set_cons_succ]
  refine wpAnyH_take (i := 11) (oi := ⟨some 55, _, _, _, _, _⟩) (v := (.pointer (some ⟨w.heap.size, 8, none⟩))) rfl (by kernel_rfl) (by kernel_rfl) (by kernel_rfl) (fun _ _ _ h => h) (Or.inl ⟨by rfl, fun w hSw => by (try dsimp only at hSw); go_simp⟩) (by assumption) ?_
  simp only [Act.put, List.setIfInBounds_toArray, List.set_cons_zero, List.set_cons_succ]
  refine wpAnyH_take (i := 12) (oi := ⟨some 56, _, _, _, _, _⟩) (v := (.int .i64 m.code)) rfl (by kernel_rfl) (by kernel_rfl) (by kernel_rfl) (fun _ _ _ h => h) (Or.inl ⟨by rfl, fun w hSw => by (try dsimp only at hSw); go_simp⟩) (by assumption) ?_
  simp only [Act.put, List.setIfInBounds_toArray, List.set_cons_zero, List.set_cons_succ]
  refine wpAnyH_take (i := 13) (oi := ⟨some 57, _, _, _, _, _⟩) (v := (.pointer (some ⟨w.heap.size, 6, none⟩))) rfl (by kernel_rfl) (by kernel_rfl) (by kernel_rfl) (fun _ _ _ h => h) (Or.inl ⟨by rfl, fun w hSw => by (try dsimp only at hSw); go_simp⟩) (by assumption) ?_
  simp only [Act.put, List.setIfInBounds_toArray, List.set_cons_zero, List.set_cons_succ]
  refine wpAnyH_take (i := 14) (oi := ⟨some 58, _, _, _, _, _⟩) (v := (.int .i64 m.price)) rfl (by kernel_rfl) (by kernel_rfl) (by kernel_rfl) (fun _ _ _ h => h) (Or.inl ⟨by rfl, fun w hSw => by (try dsimp only at hSw); go_simp⟩) (by assumption) ?_
  simp only [Act.put, List.setIfInBounds_toArray, List.set_cons_zero, List.set_cons_succ]
  refine wpAnyH_take (i := 15) (oi := ⟨some 59, _, _, _, _, _⟩) (v := (.pointer (some ⟨w.heap.size, 7, none⟩))) rfl (by kernel_rfl) (by kernel_rfl) (by kernel_rfl) (fun _ _ _ h => h) (Or.inl ⟨by rfl, fun w hSw => by (try dsimp only at hSw); go_simp⟩) (by assumption) ?_
  simp only [Act.put, List.setIfInBounds_toArray, List.set_cons_zero, List.set_cons_succ]
  refine wpAnyH_take (i := 16) (oi := ⟨some 60, _, _, _, _, _⟩) (v := (.int .i64 m.qty)) rfl (by kernel_rfl) (by kernel_rfl) (by kernel_rfl) (fun _ _ _ h => h) (Or.inl ⟨by rfl, fun w hSw => by (try dsimp only at hSw); go_simp⟩) (by assumption) ?_
  simp only [Act.put, List.setIfInBounds_toArray, List.set_cons_zero, List.set_cons_succ]
  refine wpAnyH_take (i := 17) (oi := ⟨some 61, _, _, _, _, _⟩) (v := (.agg #[.int .i64 m.id, .int .i64 0, .int .i64 m.code, .int .i64 m.price, .int .i64 m.qty, .int .i64 0, .int .i64 0])) rfl (by kernel_rfl) (by kernel_rfl) (by kernel_rfl) (fun _ _ _ h => h) (Or.inl ⟨by rfl, fun w hSw => by (try dsimp only at hSw); go_simp⟩) (by assumption) ?_
  simp only [Act.put, List.setIfInBounds_toArray, List.set_cons_zero, List.set_cons_succ]
  refine wpAnyH_take (i := 18) (oi := ⟨some 62, _, _, _, _, _⟩) (v := (.agg #[.int .i64 m.sym, .int .i64 m.id, .int .i64 0, .int .i64 m.code, .int .i64 m.price, .int .i64 m.qty, .int .i64 0, .int .i64 0])) rfl (by kernel_rfl) (by kernel_rfl) (by kernel_rfl) (fun _ _ _ h => h) (Or.inl ⟨by rfl, fun w hSw => by (try dsimp only at hSw); go_simp⟩) (by assumption) ?_
  simp only [Act.put, List.setIfInBounds_toArray, List.set_cons_zero, List.set_cons_succ]
  refine wpAnyH_ready (rs := [1, 5, 19]) (by kernel_rfl) (by simp) ?_
  refine AllReadyH.cons (o := ⟨some 45, _, _, _, _, _⟩) rfl (fun KK hK => ?_) (AllReadyH.cons (o := ⟨some 49, _, _, _, _, _⟩) rfl (fun KK hK => ?_) (AllReadyH.cons (o := ⟨some 63, _, _, _, _, _⟩) rfl (fun KK hK => ?_) (AllReadyH.nil)))
  · go_simp
    change KK _ (W2.alloc (.cells #[] 172))
    replace HA := Lib.hid HA.out.alloc_e
    generalize W2.alloc (.cells #[] 172) = W3 at HA ⊢
    generalize W2.heap.size = e1 at HA ⊢
    refine hK.out _ _ ⟨HA.out.mb.cell 1 rfl, HA.out.mb.cell 4 rfl, HA.out.mb.cell 6 rfl, HA.out.mb.cell 7 rfl, HA.out.mb.cell 8 rfl⟩ (fun hHeld => ?_)
    clear hK; try clear KK
    try simp only [Act.put, List.setIfInBounds_toArray, List.set_cons_zero, List.set_cons_succ]
    refine wpAnyH_ready (rs := [5, 19]) (by kernel_rfl) (by simp) ?_
    refine AllReadyH.cons (o := ⟨some 49, _, _, _, _, _⟩) rfl (fun KK hK => ?_) (AllReadyH.cons (o := ⟨some 63, _, _, _, _, _⟩) rfl (fun KK hK => ?_) (AllReadyH.nil))
    · have cR : W3.cell? ⟨R, 0, none⟩ = some (.slice none 0 0) := by rw [HA.out.bel.cell (p := ⟨R, 0, none⟩) HR0.out.lt]; exact HR0.out.cell 0 rfl
      go_simp
      clear cR
      refine hK.out _ _ ⟨HA.out.mb.cell 1 rfl, HA.out.mb.cell 4 rfl, HA.out.mb.cell 6 rfl, HA.out.mb.cell 7 rfl, HA.out.mb.cell 8 rfl⟩ (fun hHeld => ?_)
      clear hK; try clear KK
      try simp only [Act.put, List.setIfInBounds_toArray, List.set_cons_zero, List.set_cons_succ]
      refine wpAnyH_ready (rs := [6, 19]) (by kernel_rfl) (by simp) ?_
      refine AllReadyH.cons (o := ⟨some 50, _, _, _, _, _⟩) rfl (fun KK hK => ?_) (AllReadyH.cons (o := ⟨some 63, _, _, _, _, _⟩) rfl (fun KK hK => ?_) (AllReadyH.nil))
      · refine step_append_none (by rfl) _ _ _ (by rfl) (w.heap.size + 1) 172 i0 8 Try.underlying72 hi0 _ 0 [] (by rfl) (HA.out.er e1 rfl) (by rfl) ?_
        have HV := Lib.hid HA.out.still
        clear HA
        refine hK.out _ _ ⟨HV.out.mb.cell 1 rfl, HV.out.mb.cell 4 rfl, HV.out.mb.cell 6 rfl, HV.out.mb.cell 7 rfl, HV.out.mb.cell 8 rfl⟩ (fun hHeld => ?_)
        clear hK; try clear KK
        try simp only [Act.put, List.setIfInBounds_toArray, List.set_cons_zero, List.set_cons_succ]
        refine wpAnyH_ready (rs := [19]) (by kernel_rfl) (by simp) ?_
        refine AllReadyH.cons (o := ⟨some 63, _, _, _, _, _⟩) rfl (fun KK hK => ?_) AllReadyH.nil
        go_simp
        change KK _ (W3.alloc (.cells (rowC ((m.sym, m.id), ⟨m.code, m.price, m.qty⟩)) 172))
        replace HV := Lib.hid HV.out.alloc_n
        generalize W3.alloc (.cells (rowC ((m.sym, m.id), ⟨m.code, m.price, m.qty⟩)) 172) = W4 at HV ⊢
        generalize W3.heap.size = nb1 at HV ⊢
        refine hK.out _ _ ⟨HV.out.mb.cell 1 rfl, HV.out.mb.cell 4 rfl, HV.out.mb.cell 6 rfl, HV.out.mb.cell 7 rfl, HV.out.mb.cell 8 rfl⟩ (fun hHeld => ?_)
        clear hK; try clear KK
        try simp only [Act.put, List.setIfInBounds_toArray, List.set_cons_zero, List.set_cons_succ]
        refine wpAnyH_ready (rs := [20]) (by kernel_rfl) (by simp) ?_
        refine AllReadyH.cons (o := ⟨some 64, _, _, _, _, _⟩) rfl (fun KK hK => ?_) AllReadyH.nil
        refine step_append_lies _ (by rfl) _ _ _ (by rfl) (w.heap.size + 1) 172 i0 (.agg rowZ) 8 64 Try.underlying72 hi0 hz0 hz1 hz2 (by rfl) (by decide) _ ([] : List (Key × Rest)).length (rowsR ([] : List (Key × Rest))) (by rfl) HV.out.own ⟨nb1, 0, none⟩ 1 1 (rowC ((m.sym, m.id), ⟨m.code, m.price, m.qty⟩)).toList (by rfl) (by rfl) (news_blk (HV.out.nr nb1 rfl).1) (one_mem (one_row _)) (by decide) (by unfold maxLen; (try simp only [List.length_nil]); omega) (by (try simp only [List.length_nil]); omega) HV.out.le W4.heap.size rfl ?_
        intro g9 cap9 w9 hown9 hgrow9 hat9 hlt9
        replace HV := Lib.hid (HV.out.push hown9 hgrow9)
        clear hown9 hgrow9 hat9 hlt9
        refine hK.out _ _ ⟨HV.out.mb.cell 1 rfl, HV.out.mb.cell 4 rfl, HV.out.mb.cell 6 rfl, HV.out.mb.cell 7 rfl, HV.out.mb.cell 8 rfl⟩ (fun hHeld => ?_)
        clear hK; try clear KK
        try simp only [Act.put, List.setIfInBounds_toArray, List.set_cons_zero, List.set_cons_succ]
        refine wpAnyH_take (i := 21) (oi := ⟨some 65, _, _, _, _, _⟩) (v := (.pointer (some ⟨R, 0, none⟩))) rfl (by kernel_rfl) (by kernel_rfl) (by kernel_rfl) (fun _ _ _ h => h) (Or.inl ⟨by rfl, fun w hSw => by (try dsimp only at hSw); go_simp⟩) (by assumption) ?_
        simp only [Act.put, List.setIfInBounds_toArray, List.set_cons_zero, List.set_cons_succ]
        refine wpAnyH_take (i := 22) (oi := ⟨some 66, _, _, _, _, _⟩) (v := (.pointer (some ⟨R, 0, none⟩))) rfl (by kernel_rfl) (by kernel_rfl) (by kernel_rfl) (fun _ _ _ h => h) (Or.inl ⟨by rfl, fun w hSw => by (try dsimp only at hSw); go_simp⟩) (by assumption) ?_
        simp only [Act.put, List.setIfInBounds_toArray, List.set_cons_zero, List.set_cons_succ]
        refine wpAnyH_ready (rs := [23]) (by kernel_rfl) (by simp) ?_
        refine AllReadyH.cons (o := ⟨none, _, _, _, _, _⟩) rfl (fun KK hK => ?_) AllReadyH.nil
        have cR9 := (HR0.out.below HV.out.bel HR0.out.lt).cell 0 rfl
        have fR : w9.frozen? ⟨R, 0, none⟩ = false := (HR0.out.below HV.out.bel HR0.out.lt).free 0
        have HEND := Lib.hid (show RS N (w9.setCell ⟨R, 0, none⟩ (.slice (some ⟨g9, 0, none⟩) (([] : List (Key × Rest)).length + 1) cap9)) R (([] : List (Key × Rest)) ++ [((m.sym, m.id), ⟨m.code, m.price, m.qty⟩)]) ∧ Chg w.heap.size R w (w9.setCell ⟨R, 0, none⟩ (.slice (some ⟨g9, 0, none⟩) (([] : List (Key × Rest)).length + 1) cap9)) ∧ Blk (w9.setCell ⟨R, 0, none⟩ (.slice (some ⟨g9, 0, none⟩) (([] : List (Key × Rest)).length + 1) cap9)) w.heap.size m.cells 66 from HV.out.done HR0.out hRN hN _ rfl)
        go_simp
        change KK _ (w9.setCell ⟨R, 0, none⟩ (.slice (some ⟨g9, 0, none⟩) (([] : List (Key × Rest)).length + 1) cap9))
        generalize w9.setCell ⟨R, 0, none⟩ (.slice (some ⟨g9, 0, none⟩) (([] : List (Key × Rest)).length + 1) cap9) = w10 at HEND ⊢
        refine hK.out _ _ ⟨HEND.out.2.2.cell 1 rfl, HEND.out.2.2.cell 4 rfl, HEND.out.2.2.cell 6 rfl, HEND.out.2.2.cell 7 rfl, HEND.out.2.2.cell 8 rfl⟩ (fun hHeld => ?_)
        clear hK; try clear KK
        refine wpAnyH_done (by kernel_rfl) ?_ _
        go_wp2_with fail
        go_ret
        exact ⟨by (show Ending.returned (.bool true) = _; rw [HE.out]), by rw [HE.out]; exact HEND.out.1, HEND.out.2.1⟩
      · go_simp
        change KK _ (W3.alloc (.cells (rowC ((m.sym, m.id), ⟨m.code, m.price, m.qty⟩)) 172))
        replace HA := Lib.hid HA.out.alloc_n
        generalize W3.alloc (.cells (rowC ((m.sym, m.id), ⟨m.code, m.price, m.qty⟩)) 172) = W5 at HA ⊢
        generalize W3.heap.size = nb1 at HA ⊢
        refine hK.out _ _ ⟨HA.out.mb.cell 1 rfl, HA.out.mb.cell 4 rfl, HA.out.mb.cell 6 rfl, HA.out.mb.cell 7 rfl, HA.out.mb.cell 8 rfl⟩ (fun hHeld => ?_)
        clear hK; try clear KK
        try simp only [Act.put, List.setIfInBounds_toArray, List.set_cons_zero, List.set_cons_succ]
        refine wpAnyH_ready (rs := [6]) (by kernel_rfl) (by simp) ?_
        refine AllReadyH.cons (o := ⟨some 50, _, _, _, _, _⟩) rfl (fun KK hK => ?_) AllReadyH.nil
        refine step_append_none (by rfl) _ _ _ (by rfl) (w.heap.size + 1) 172 i0 8 Try.underlying72 hi0 _ 0 [] (by rfl) (HA.out.er e1 rfl) (by rfl) ?_
        have HV := Lib.hid HA.out.still
        clear HA
        refine hK.out _ _ ⟨HV.out.mb.cell 1 rfl, HV.out.mb.cell 4 rfl, HV.out.mb.cell 6 rfl, HV.out.mb.cell 7 rfl, HV.out.mb.cell 8 rfl⟩ (fun hHeld => ?_)
        clear hK; try clear KK
        try simp only [Act.put, List.setIfInBounds_toArray, List.set_cons_zero, List.set_cons_succ]
        refine wpAnyH_ready (rs := [20]) (by kernel_rfl) (by simp) ?_
        refine AllReadyH.cons (o := ⟨some 64, _, _, _, _, _⟩) rfl (fun KK hK => ?_) AllReadyH.nil
        refine step_append_lies _ (by rfl) _ _ _ (by rfl) (w.heap.size + 1) 172 i0 (.agg rowZ) 8 64 Try.underlying72 hi0 hz0 hz1 hz2 (by rfl) (by decide) _ ([] : List (Key × Rest)).length (rowsR ([] : List (Key × Rest))) (by rfl) HV.out.own ⟨nb1, 0, none⟩ 1 1 (rowC ((m.sym, m.id), ⟨m.code, m.price, m.qty⟩)).toList (by rfl) (by rfl) (news_blk (HV.out.nr nb1 rfl).1) (one_mem (one_row _)) (by decide) (by unfold maxLen; (try simp only [List.length_nil]); omega) (by (try simp only [List.length_nil]); omega) HV.out.le W5.heap.size rfl ?_
        intro g9 cap9 w9 hown9 hgrow9 hat9 hlt9
        replace HV := Lib.hid (HV.out.push hown9 hgrow9)
        clear hown9 hgrow9 hat9 hlt9
        refine hK.out _ _ ⟨HV.out.mb.cell 1 rfl, HV.out.mb.cell 4 rfl, HV.out.mb.cell 6 rfl, HV.out.mb.cell 7 rfl, HV.out.mb.cell 8 rfl⟩ (fun hHeld => ?_)
        clear hK; try clear KK
        try simp only [Act.put, List.setIfInBounds_toArray, List.set_cons_zero, List.set_cons_succ]
        refine wpAnyH_take (i := 21) (oi := ⟨some 65, _, _, _, _, _⟩) (v := (.pointer (some ⟨R, 0, none⟩))) rfl (by kernel_rfl) (by kernel_rfl) (by kernel_rfl) (fun _ _ _ h => h) (Or.inl ⟨by rfl, fun w hSw => by (try dsimp only at hSw); go_simp⟩) (by assumption) ?_
        simp only [Act.put, List.setIfInBounds_toArray, List.set_cons_zero, List.set_cons_succ]
        refine wpAnyH_take (i := 22) (oi := ⟨some 66, _, _, _, _, _⟩) (v := (.pointer (some ⟨R, 0, none⟩))) rfl (by kernel_rfl) (by kernel_rfl) (by kernel_rfl) (fun _ _ _ h => h) (Or.inl ⟨by rfl, fun w hSw => by (try dsimp only at hSw); go_simp⟩) (by assumption) ?_
        simp only [Act.put, List.setIfInBounds_toArray, List.set_cons_zero, List.set_cons_succ]
        refine wpAnyH_ready (rs := [23]) (by kernel_rfl) (by simp) ?_
        refine AllReadyH.cons (o := ⟨none, _, _, _, _, _⟩) rfl (fun KK hK => ?_) AllReadyH.nil
        have cR9 := (HR0.out.below HV.out.bel HR0.out.lt).cell 0 rfl
        have fR : w9.frozen? ⟨R, 0, none⟩ = false := (HR0.out.below HV.out.bel HR0.out.lt).free 0
        have HEND := Lib.hid (show RS N (w9.setCell ⟨R, 0, none⟩ (.slice (some ⟨g9, 0, none⟩) (([] : List (Key × Rest)).length + 1) cap9)) R (([] : List (Key × Rest)) ++ [((m.sym, m.id), ⟨m.code, m.price, m.qty⟩)]) ∧ Chg w.heap.size R w (w9.setCell ⟨R, 0, none⟩ (.slice (some ⟨g9, 0, none⟩) (([] : List (Key × Rest)).length + 1) cap9)) ∧ Blk (w9.setCell ⟨R, 0, none⟩ (.slice (some ⟨g9, 0, none⟩) (([] : List (Key × Rest)).length + 1) cap9)) w.heap.size m.cells 66 from HV.out.done HR0.out hRN hN _ rfl)
        go_simp
        change KK _ (w9.setCell ⟨R, 0, none⟩ (.slice (some ⟨g9, 0, none⟩) (([] : List (Key × Rest)).length + 1) cap9))
        generalize w9.setCell ⟨R, 0, none⟩ (.slice (some ⟨g9, 0, none⟩) (([] : List (Key × Rest)).length + 1) cap9) = w10 at HEND ⊢
        refine hK.out _ _ ⟨HEND.out.2.2.cell 1 rfl, HEND.out.2.2.cell 4 rfl, HEND.out.2.2.cell 6 rfl, HEND.out.2.2.cell 7 rfl, HEND.out.2.2.cell 8 rfl⟩ (fun hHeld => ?_)
        clear hK; try clear KK
        refine wpAnyH_done (by kernel_rfl) ?_ _
        go_wp2_with fail
        go_ret
        exact ⟨by (show Ending.returned (.bool true) = _; rw [HE.out]), by rw [HE.out]; exact HEND.out.1, HEND.out.2.1⟩
    · go_simp
      change KK _ (W3.alloc (.cells (rowC ((m.sym, m.id), ⟨m.code, m.price, m.qty⟩)) 172))
      replace HA := Lib.hid HA.out.alloc_n
      generalize W3.alloc (.cells (rowC ((m.sym, m.id), ⟨m.code, m.price, m.qty⟩)) 172) = W6 at HA ⊢
      generalize W3.heap.size = nb1 at HA ⊢
      refine hK.out _ _ ⟨HA.out.mb.cell 1 rfl, HA.out.mb.cell 4 rfl, HA.out.mb.cell 6 rfl, HA.out.mb.cell 7 rfl, HA.out.mb.cell 8 rfl⟩ (fun hHeld => ?_)
      clear hK; try clear KK
      try simp only [Act.put, List.setIfInBounds_toArray, List.set_cons_zero, List.set_cons_succ]
      refine wpAnyH_ready (rs := [5]) (by kernel_rfl) (by simp) ?_
      refine AllReadyH.cons (o := ⟨some 49, _, _, _, _, _⟩) rfl (fun KK hK => ?_) AllReadyH.nil
      have cR : W6.cell? ⟨R, 0, none⟩ = some (.slice none 0 0) := by rw [HA.out.bel.cell (p := ⟨R, 0, none⟩) HR0.out.lt]; exact HR0.out.cell 0 rfl
      go_simp
      clear cR
      refine hK.out _ _ ⟨HA.out.mb.cell 1 rfl, HA.out.mb.cell 4 rfl, HA.out.mb.cell 6 rfl, HA.out.mb.cell 7 rfl, HA.out.mb.cell 8 rfl⟩ (fun hHeld => ?_)
      clear hK; try clear KK
      try simp only [Act.put, List.setIfInBounds_toArray, List.set_cons_zero, List.set_cons_succ]
      refine wpAnyH_ready (rs := [6]) (by kernel_rfl) (by simp) ?_
      refine AllReadyH.cons (o := ⟨some 50, _, _, _, _, _⟩) rfl (fun KK hK => ?_) AllReadyH.nil
      refine step_append_none (by rfl) _ _ _ (by rfl) (w.heap.size + 1) 172 i0 8 Try.underlying72 hi0 _ 0 [] (by rfl) (HA.out.er e1 rfl) (by rfl) ?_
      have HV := Lib.hid HA.out.still
      clear HA
      refine hK.out _ _ ⟨HV.out.mb.cell 1 rfl, HV.out.mb.cell 4 rfl, HV.out.mb.cell 6 rfl, HV.out.mb.cell 7 rfl, HV.out.mb.cell 8 rfl⟩ (fun hHeld => ?_)
      clear hK; try clear KK
      try simp only [Act.put, List.setIfInBounds_toArray, List.set_cons_zero, List.set_cons_succ]
      refine wpAnyH_ready (rs := [20]) (by kernel_rfl) (by simp) ?_
      refine AllReadyH.cons (o := ⟨some 64, _, _, _, _, _⟩) rfl (fun KK hK => ?_) AllReadyH.nil
      refine step_append_lies _ (by rfl) _ _ _ (by rfl) (w.heap.size + 1) 172 i0 (.agg rowZ) 8 64 Try.underlying72 hi0 hz0 hz1 hz2 (by rfl) (by decide) _ ([] : List (Key × Rest)).length (rowsR ([] : List (Key × Rest))) (by rfl) HV.out.own ⟨nb1, 0, none⟩ 1 1 (rowC ((m.sym, m.id), ⟨m.code, m.price, m.qty⟩)).toList (by rfl) (by rfl) (news_blk (HV.out.nr nb1 rfl).1) (one_mem (one_row _)) (by decide) (by unfold maxLen; (try simp only [List.length_nil]); omega) (by (try simp only [List.length_nil]); omega) HV.out.le W6.heap.size rfl ?_
      intro g9 cap9 w9 hown9 hgrow9 hat9 hlt9
      replace HV := Lib.hid (HV.out.push hown9 hgrow9)
      clear hown9 hgrow9 hat9 hlt9
      refine hK.out _ _ ⟨HV.out.mb.cell 1 rfl, HV.out.mb.cell 4 rfl, HV.out.mb.cell 6 rfl, HV.out.mb.cell 7 rfl, HV.out.mb.cell 8 rfl⟩ (fun hHeld => ?_)
      clear hK; try clear KK
      try simp only [Act.put, List.setIfInBounds_toArray, List.set_cons_zero, List.set_cons_succ]
      refine wpAnyH_take (i := 21) (oi := ⟨some 65, _, _, _, _, _⟩) (v := (.pointer (some ⟨R, 0, none⟩))) rfl (by kernel_rfl) (by kernel_rfl) (by kernel_rfl) (fun _ _ _ h => h) (Or.inl ⟨by rfl, fun w hSw => by (try dsimp only at hSw); go_simp⟩) (by assumption) ?_
      simp only [Act.put, List.setIfInBounds_toArray, List.set_cons_zero, List.set_cons_succ]
      refine wpAnyH_take (i := 22) (oi := ⟨some 66, _, _, _, _, _⟩) (v := (.pointer (some ⟨R, 0, none⟩))) rfl (by kernel_rfl) (by kernel_rfl) (by kernel_rfl) (fun _ _ _ h => h) (Or.inl ⟨by rfl, fun w hSw => by (try dsimp only at hSw); go_simp⟩) (by assumption) ?_
      simp only [Act.put, List.setIfInBounds_toArray, List.set_cons_zero, List.set_cons_succ]
      refine wpAnyH_ready (rs := [23]) (by kernel_rfl) (by simp) ?_
      refine AllReadyH.cons (o := ⟨none, _, _, _, _, _⟩) rfl (fun KK hK => ?_) AllReadyH.nil
      have cR9 := (HR0.out.below HV.out.bel HR0.out.lt).cell 0 rfl
      have fR : w9.frozen? ⟨R, 0, none⟩ = false := (HR0.out.below HV.out.bel HR0.out.lt).free 0
      have HEND := Lib.hid (show RS N (w9.setCell ⟨R, 0, none⟩ (.slice (some ⟨g9, 0, none⟩) (([] : List (Key × Rest)).length + 1) cap9)) R (([] : List (Key × Rest)) ++ [((m.sym, m.id), ⟨m.code, m.price, m.qty⟩)]) ∧ Chg w.heap.size R w (w9.setCell ⟨R, 0, none⟩ (.slice (some ⟨g9, 0, none⟩) (([] : List (Key × Rest)).length + 1) cap9)) ∧ Blk (w9.setCell ⟨R, 0, none⟩ (.slice (some ⟨g9, 0, none⟩) (([] : List (Key × Rest)).length + 1) cap9)) w.heap.size m.cells 66 from HV.out.done HR0.out hRN hN _ rfl)
      go_simp
      change KK _ (w9.setCell ⟨R, 0, none⟩ (.slice (some ⟨g9, 0, none⟩) (([] : List (Key × Rest)).length + 1) cap9))
      generalize w9.setCell ⟨R, 0, none⟩ (.slice (some ⟨g9, 0, none⟩) (([] : List (Key × Rest)).length + 1) cap9) = w10 at HEND ⊢
      refine hK.out _ _ ⟨HEND.out.2.2.cell 1 rfl, HEND.out.2.2.cell 4 rfl, HEND.out.2.2.cell 6 rfl, HEND.out.2.2.cell 7 rfl, HEND.out.2.2.cell 8 rfl⟩ (fun hHeld => ?_)
      clear hK; try clear KK
      refine wpAnyH_done (by kernel_rfl) ?_ _
      go_wp2_with fail
      go_ret
      exact ⟨by (show Ending.returned (.bool true) = _; rw [HE.out]), by rw [HE.out]; exact HEND.out.1, HEND.out.2.1⟩
  · have cR : W2.cell? ⟨R, 0, none⟩ = some (.slice none 0 0) := by rw [HA.out.bel.cell (p := ⟨R, 0, none⟩) HR0.out.lt]; exact HR0.out.cell 0 rfl
    go_simp
    clear cR
    refine hK.out _ _ ⟨HA.out.mb.cell 1 rfl, HA.out.mb.cell 4 rfl, HA.out.mb.cell 6 rfl, HA.out.mb.cell 7 rfl, HA.out.mb.cell 8 rfl⟩ (fun hHeld => ?_)
    clear hK; try clear KK
    try simp only [Act.put, List.setIfInBounds_toArray, List.set_cons_zero, List.set_cons_succ]
    refine wpAnyH_ready (rs := [1, 19]) (by kernel_rfl) (by simp) ?_
    refine AllReadyH.cons (o := ⟨some 45, _, _, _, _, _⟩) rfl (fun KK hK => ?_) (AllReadyH.cons (o := ⟨some 63, _, _, _, _, _⟩) rfl (fun KK hK => ?_) (AllReadyH.nil))
    · go_simp
      change KK _ (W2.alloc (.cells #[] 172))
      replace HA := Lib.hid HA.out.alloc_e
      generalize W2.alloc (.cells #[] 172) = W7 at HA ⊢
      generalize W2.heap.size = e1 at HA ⊢
      refine hK.out _ _ ⟨HA.out.mb.cell 1 rfl, HA.out.mb.cell 4 rfl, HA.out.mb.cell 6 rfl, HA.out.mb.cell 7 rfl, HA.out.mb.cell 8 rfl⟩ (fun hHeld => ?_)
      clear hK; try clear KK
      try simp only [Act.put, List.setIfInBounds_toArray, List.set_cons_zero, List.set_cons_succ]
      refine wpAnyH_ready (rs := [6, 19]) (by kernel_rfl) (by simp) ?_
      refine AllReadyH.cons (o := ⟨some 50, _, _, _, _, _⟩) rfl (fun KK hK => ?_) (AllReadyH.cons (o := ⟨some 63, _, _, _, _, _⟩) rfl (fun KK hK => ?_) (AllReadyH.nil))
      · refine step_append_none (by rfl) _ _ _ (by rfl) (w.heap.size + 1) 172 i0 8 Try.underlying72 hi0 _ 0 [] (by rfl) (HA.out.er e1 rfl) (by rfl) ?_
        have HV := Lib.hid HA.out.still
        clear HA
        refine hK.out _ _ ⟨HV.out.mb.cell 1 rfl, HV.out.mb.cell 4 rfl, HV.out.mb.cell 6 rfl, HV.out.mb.cell 7 rfl, HV.out.mb.cell 8 rfl⟩ (fun hHeld => ?_)
        clear hK; try clear KK
        try simp only [Act.put, List.setIfInBounds_toArray, List.set_cons_zero, List.set_cons_succ]
        refine wpAnyH_ready (rs := [19]) (by kernel_rfl) (by simp) ?_
        refine AllReadyH.cons (o := ⟨some 63, _, _, _, _, _⟩) rfl (fun KK hK => ?_) AllReadyH.nil
        go_simp
        change KK _ (W7.alloc (.cells (rowC ((m.sym, m.id), ⟨m.code, m.price, m.qty⟩)) 172))
        replace HV := Lib.hid HV.out.alloc_n
        generalize W7.alloc (.cells (rowC ((m.sym, m.id), ⟨m.code, m.price, m.qty⟩)) 172) = W8 at HV ⊢
        generalize W7.heap.size = nb1 at HV ⊢
        refine hK.out _ _ ⟨HV.out.mb.cell 1 rfl, HV.out.mb.cell 4 rfl, HV.out.mb.cell 6 rfl, HV.out.mb.cell 7 rfl, HV.out.mb.cell 8 rfl⟩ (fun hHeld => ?_)
        clear hK; try clear KK
        try simp only [Act.put, List.setIfInBounds_toArray, List.set_cons_zero, List.set_cons_succ]
        refine wpAnyH_ready (rs := [20]) (by kernel_rfl) (by simp) ?_
        refine AllReadyH.cons (o := ⟨some 64, _, _, _, _, _⟩) rfl (fun KK hK => ?_) AllReadyH.nil
        refine step_append_lies _ (by rfl) _ _ _ (by rfl) (w.heap.size + 1) 172 i0 (.agg rowZ) 8 64 Try.underlying72 hi0 hz0 hz1 hz2 (by rfl) (by decide) _ ([] : List (Key × Rest)).length (rowsR ([] : List (Key × Rest))) (by rfl) HV.out.own ⟨nb1, 0, none⟩ 1 1 (rowC ((m.sym, m.id), ⟨m.code, m.price, m.qty⟩)).toList (by rfl) (by rfl) (news_blk (HV.out.nr nb1 rfl).1) (one_mem (one_row _)) (by decide) (by unfold maxLen; (try simp only [List.length_nil]); omega) (by (try simp only [List.length_nil]); omega) HV.out.le W8.heap.size rfl ?_
        intro g9 cap9 w9 hown9 hgrow9 hat9 hlt9
        replace HV := Lib.hid (HV.out.push hown9 hgrow9)
        clear hown9 hgrow9 hat9 hlt9
        refine hK.out _ _ ⟨HV.out.mb.cell 1 rfl, HV.out.mb.cell 4 rfl, HV.out.mb.cell 6 rfl, HV.out.mb.cell 7 rfl, HV.out.mb.cell 8 rfl⟩ (fun hHeld => ?_)
        clear hK; try clear KK
        try simp only [Act.put, List.setIfInBounds_toArray, List.set_cons_zero, List.set_cons_succ]
        refine wpAnyH_take (i := 21) (oi := ⟨some 65, _, _, _, _, _⟩) (v := (.pointer (some ⟨R, 0, none⟩))) rfl (by kernel_rfl) (by kernel_rfl) (by kernel_rfl) (fun _ _ _ h => h) (Or.inl ⟨by rfl, fun w hSw => by (try dsimp only at hSw); go_simp⟩) (by assumption) ?_
        simp only [Act.put, List.setIfInBounds_toArray, List.set_cons_zero, List.set_cons_succ]
        refine wpAnyH_take (i := 22) (oi := ⟨some 66, _, _, _, _, _⟩) (v := (.pointer (some ⟨R, 0, none⟩))) rfl (by kernel_rfl) (by kernel_rfl) (by kernel_rfl) (fun _ _ _ h => h) (Or.inl ⟨by rfl, fun w hSw => by (try dsimp only at hSw); go_simp⟩) (by assumption) ?_
        simp only [Act.put, List.setIfInBounds_toArray, List.set_cons_zero, List.set_cons_succ]
        refine wpAnyH_ready (rs := [23]) (by kernel_rfl) (by simp) ?_
        refine AllReadyH.cons (o := ⟨none, _, _, _, _, _⟩) rfl (fun KK hK => ?_) AllReadyH.nil
        have cR9 := (HR0.out.below HV.out.bel HR0.out.lt).cell 0 rfl
        have fR : w9.frozen? ⟨R, 0, none⟩ = false := (HR0.out.below HV.out.bel HR0.out.lt).free 0
        have HEND := Lib.hid (show RS N (w9.setCell ⟨R, 0, none⟩ (.slice (some ⟨g9, 0, none⟩) (([] : List (Key × Rest)).length + 1) cap9)) R (([] : List (Key × Rest)) ++ [((m.sym, m.id), ⟨m.code, m.price, m.qty⟩)]) ∧ Chg w.heap.size R w (w9.setCell ⟨R, 0, none⟩ (.slice (some ⟨g9, 0, none⟩) (([] : List (Key × Rest)).length + 1) cap9)) ∧ Blk (w9.setCell ⟨R, 0, none⟩ (.slice (some ⟨g9, 0, none⟩) (([] : List (Key × Rest)).length + 1) cap9)) w.heap.size m.cells 66 from HV.out.done HR0.out hRN hN _ rfl)
        go_simp
        change KK _ (w9.setCell ⟨R, 0, none⟩ (.slice (some ⟨g9, 0, none⟩) (([] : List (Key × Rest)).length + 1) cap9))
        generalize w9.setCell ⟨R, 0, none⟩ (.slice (some ⟨g9, 0, none⟩) (([] : List (Key × Rest)).length + 1) cap9) = w10 at HEND ⊢
        refine hK.out _ _ ⟨HEND.out.2.2.cell 1 rfl, HEND.out.2.2.cell 4 rfl, HEND.out.2.2.cell 6 rfl, HEND.out.2.2.cell 7 rfl, HEND.out.2.2.cell 8 rfl⟩ (fun hHeld => ?_)
        clear hK; try clear KK
        refine wpAnyH_done (by kernel_rfl) ?_ _
        go_wp2_with fail
        go_ret
        exact ⟨by (show Ending.returned (.bool true) = _; rw [HE.out]), by rw [HE.out]; exact HEND.out.1, HEND.out.2.1⟩
      · go_simp
        change KK _ (W7.alloc (.cells (rowC ((m.sym, m.id), ⟨m.code, m.price, m.qty⟩)) 172))
        replace HA := Lib.hid HA.out.alloc_n
        generalize W7.alloc (.cells (rowC ((m.sym, m.id), ⟨m.code, m.price, m.qty⟩)) 172) = W9 at HA ⊢
        generalize W7.heap.size = nb1 at HA ⊢
        refine hK.out _ _ ⟨HA.out.mb.cell 1 rfl, HA.out.mb.cell 4 rfl, HA.out.mb.cell 6 rfl, HA.out.mb.cell 7 rfl, HA.out.mb.cell 8 rfl⟩ (fun hHeld => ?_)
        clear hK; try clear KK
        try simp only [Act.put, List.setIfInBounds_toArray, List.set_cons_zero, List.set_cons_succ]
        refine wpAnyH_ready (rs := [6]) (by kernel_rfl) (by simp) ?_
        refine AllReadyH.cons (o := ⟨some 50, _, _, _, _, _⟩) rfl (fun KK hK => ?_) AllReadyH.nil
        refine step_append_none (by rfl) _ _ _ (by rfl) (w.heap.size + 1) 172 i0 8 Try.underlying72 hi0 _ 0 [] (by rfl) (HA.out.er e1 rfl) (by rfl) ?_
        have HV := Lib.hid HA.out.still
        clear HA
        refine hK.out _ _ ⟨HV.out.mb.cell 1 rfl, HV.out.mb.cell 4 rfl, HV.out.mb.cell 6 rfl, HV.out.mb.cell 7 rfl, HV.out.mb.cell 8 rfl⟩ (fun hHeld => ?_)
        clear hK; try clear KK
        try simp only [Act.put, List.setIfInBounds_toArray, List.set_cons_zero, List.set_cons_succ]
        refine wpAnyH_ready (rs := [20]) (by kernel_rfl) (by simp) ?_
        refine AllReadyH.cons (o := ⟨some 64, _, _, _, _, _⟩) rfl (fun KK hK => ?_) AllReadyH.nil
        refine step_append_lies _ (by rfl) _ _ _ (by rfl) (w.heap.size + 1) 172 i0 (.agg rowZ) 8 64 Try.underlying72 hi0 hz0 hz1 hz2 (by rfl) (by decide) _ ([] : List (Key × Rest)).length (rowsR ([] : List (Key × Rest))) (by rfl) HV.out.own ⟨nb1, 0, none⟩ 1 1 (rowC ((m.sym, m.id), ⟨m.code, m.price, m.qty⟩)).toList (by rfl) (by rfl) (news_blk (HV.out.nr nb1 rfl).1) (one_mem (one_row _)) (by decide) (by unfold maxLen; (try simp only [List.length_nil]); omega) (by (try simp only [List.length_nil]); omega) HV.out.le W9.heap.size rfl ?_
        intro g9 cap9 w9 hown9 hgrow9 hat9 hlt9
        replace HV := Lib.hid (HV.out.push hown9 hgrow9)
        clear hown9 hgrow9 hat9 hlt9
        refine hK.out _ _ ⟨HV.out.mb.cell 1 rfl, HV.out.mb.cell 4 rfl, HV.out.mb.cell 6 rfl, HV.out.mb.cell 7 rfl, HV.out.mb.cell 8 rfl⟩ (fun hHeld => ?_)
        clear hK; try clear KK
        try simp only [Act.put, List.setIfInBounds_toArray, List.set_cons_zero, List.set_cons_succ]
        refine wpAnyH_take (i := 21) (oi := ⟨some 65, _, _, _, _, _⟩) (v := (.pointer (some ⟨R, 0, none⟩))) rfl (by kernel_rfl) (by kernel_rfl) (by kernel_rfl) (fun _ _ _ h => h) (Or.inl ⟨by rfl, fun w hSw => by (try dsimp only at hSw); go_simp⟩) (by assumption) ?_
        simp only [Act.put, List.setIfInBounds_toArray, List.set_cons_zero, List.set_cons_succ]
        refine wpAnyH_take (i := 22) (oi := ⟨some 66, _, _, _, _, _⟩) (v := (.pointer (some ⟨R, 0, none⟩))) rfl (by kernel_rfl) (by kernel_rfl) (by kernel_rfl) (fun _ _ _ h => h) (Or.inl ⟨by rfl, fun w hSw => by (try dsimp only at hSw); go_simp⟩) (by assumption) ?_
        simp only [Act.put, List.setIfInBounds_toArray, List.set_cons_zero, List.set_cons_succ]
        refine wpAnyH_ready (rs := [23]) (by kernel_rfl) (by simp) ?_
        refine AllReadyH.cons (o := ⟨none, _, _, _, _, _⟩) rfl (fun KK hK => ?_) AllReadyH.nil
        have cR9 := (HR0.out.below HV.out.bel HR0.out.lt).cell 0 rfl
        have fR : w9.frozen? ⟨R, 0, none⟩ = false := (HR0.out.below HV.out.bel HR0.out.lt).free 0
        have HEND := Lib.hid (show RS N (w9.setCell ⟨R, 0, none⟩ (.slice (some ⟨g9, 0, none⟩) (([] : List (Key × Rest)).length + 1) cap9)) R (([] : List (Key × Rest)) ++ [((m.sym, m.id), ⟨m.code, m.price, m.qty⟩)]) ∧ Chg w.heap.size R w (w9.setCell ⟨R, 0, none⟩ (.slice (some ⟨g9, 0, none⟩) (([] : List (Key × Rest)).length + 1) cap9)) ∧ Blk (w9.setCell ⟨R, 0, none⟩ (.slice (some ⟨g9, 0, none⟩) (([] : List (Key × Rest)).length + 1) cap9)) w.heap.size m.cells 66 from HV.out.done HR0.out hRN hN _ rfl)
        go_simp
        change KK _ (w9.setCell ⟨R, 0, none⟩ (.slice (some ⟨g9, 0, none⟩) (([] : List (Key × Rest)).length + 1) cap9))
        generalize w9.setCell ⟨R, 0, none⟩ (.slice (some ⟨g9, 0, none⟩) (([] : List (Key × Rest)).length + 1) cap9) = w10 at HEND ⊢
        refine hK.out _ _ ⟨HEND.out.2.2.cell 1 rfl, HEND.out.2.2.cell 4 rfl, HEND.out.2.2.cell 6 rfl, HEND.out.2.2.cell 7 rfl, HEND.out.2.2.cell 8 rfl⟩ (fun hHeld => ?_)
        clear hK; try clear KK
        refine wpAnyH_done (by kernel_rfl) ?_ _
        go_wp2_with fail
        go_ret
        exact ⟨by (show Ending.returned (.bool true) = _; rw [HE.out]), by rw [HE.out]; exact HEND.out.1, HEND.out.2.1⟩
    · go_simp
      change KK _ (W2.alloc (.cells (rowC ((m.sym, m.id), ⟨m.code, m.price, m.qty⟩)) 172))
      replace HA := Lib.hid HA.out.alloc_n
      generalize W2.alloc (.cells (rowC ((m.sym, m.id), ⟨m.code, m.price, m.qty⟩)) 172) = W10 at HA ⊢
      generalize W2.heap.size = nb1 at HA ⊢
      refine hK.out _ _ ⟨HA.out.mb.cell 1 rfl, HA.out.mb.cell 4 rfl, HA.out.mb.cell 6 rfl, HA.out.mb.cell 7 rfl, HA.out.mb.cell 8 rfl⟩ (fun hHeld => ?_)
      clear hK; try clear KK
      try simp only [Act.put, List.setIfInBounds_toArray, List.set_cons_zero, List.set_cons_succ]
      refine wpAnyH_ready (rs := [1]) (by kernel_rfl) (by simp) ?_
      refine AllReadyH.cons (o := ⟨some 45, _, _, _, _, _⟩) rfl (fun KK hK => ?_) AllReadyH.nil
      go_simp
      change KK _ (W10.alloc (.cells #[] 172))
      replace HA := Lib.hid HA.out.alloc_e
      generalize W10.alloc (.cells #[] 172) = W11 at HA ⊢
      generalize W10.heap.size = e1 at HA ⊢
      refine hK.out _ _ ⟨HA.out.mb.cell 1 rfl, HA.out.mb.cell 4 rfl, HA.out.mb.cell 6 rfl, HA.out.mb.cell 7 rfl, HA.out.mb.cell 8 rfl⟩ (fun hHeld => ?_)
      clear hK; try clear KK
      try simp only [Act.put, List.setIfInBounds_toArray, List.set_cons_zero, List.set_cons_succ]
      refine wpAnyH_ready (rs := [6]) (by kernel_rfl) (by simp) ?_
      refine AllReadyH.cons (o := ⟨some 50, _, _, _, _, _⟩) rfl (fun KK hK => ?_) AllReadyH.nil
      refine step_append_none (by rfl) _ _ _ (by rfl) (w.heap.size + 1) 172 i0 8 Try.underlying72 hi0 _ 0 [] (by rfl) (HA.out.er e1 rfl) (by rfl) ?_
      have HV := Lib.hid HA.out.still
      clear HA
      refine hK.out _ _ ⟨HV.out.mb.cell 1 rfl, HV.out.mb.cell 4 rfl, HV.out.mb.cell 6 rfl, HV.out.mb.cell 7 rfl, HV.out.mb.cell 8 rfl⟩ (fun hHeld => ?_)
      clear hK; try clear KK
      try simp only [Act.put, List.setIfInBounds_toArray, List.set_cons_zero, List.set_cons_succ]
      refine wpAnyH_ready (rs := [20]) (by kernel_rfl) (by simp) ?_
      refine AllReadyH.cons (o := ⟨some 64, _, _, _, _, _⟩) rfl (fun KK hK => ?_) AllReadyH.nil
      refine step_append_lies _ (by rfl) _ _ _ (by rfl) (w.heap.size + 1) 172 i0 (.agg rowZ) 8 64 Try.underlying72 hi0 hz0 hz1 hz2 (by rfl) (by decide) _ ([] : List (Key × Rest)).length (rowsR ([] : List (Key × Rest))) (by rfl) HV.out.own ⟨nb1, 0, none⟩ 1 1 (rowC ((m.sym, m.id), ⟨m.code, m.price, m.qty⟩)).toList (by rfl) (by rfl) (news_blk (HV.out.nr nb1 rfl).1) (one_mem (one_row _)) (by decide) (by unfold maxLen; (try simp only [List.length_nil]); omega) (by (try simp only [List.length_nil]); omega) HV.out.le W11.heap.size rfl ?_
      intro g9 cap9 w9 hown9 hgrow9 hat9 hlt9
      replace HV := Lib.hid (HV.out.push hown9 hgrow9)
      clear hown9 hgrow9 hat9 hlt9
      refine hK.out _ _ ⟨HV.out.mb.cell 1 rfl, HV.out.mb.cell 4 rfl, HV.out.mb.cell 6 rfl, HV.out.mb.cell 7 rfl, HV.out.mb.cell 8 rfl⟩ (fun hHeld => ?_)
      clear hK; try clear KK
      try simp only [Act.put, List.setIfInBounds_toArray, List.set_cons_zero, List.set_cons_succ]
      refine wpAnyH_take (i := 21) (oi := ⟨some 65, _, _, _, _, _⟩) (v := (.pointer (some ⟨R, 0, none⟩))) rfl (by kernel_rfl) (by kernel_rfl) (by kernel_rfl) (fun _ _ _ h => h) (Or.inl ⟨by rfl, fun w hSw => by (try dsimp only at hSw); go_simp⟩) (by assumption) ?_
      simp only [Act.put, List.setIfInBounds_toArray, List.set_cons_zero, List.set_cons_succ]
      refine wpAnyH_take (i := 22) (oi := ⟨some 66, _, _, _, _, _⟩) (v := (.pointer (some ⟨R, 0, none⟩))) rfl (by kernel_rfl) (by kernel_rfl) (by kernel_rfl) (fun _ _ _ h => h) (Or.inl ⟨by rfl, fun w hSw => by (try dsimp only at hSw); go_simp⟩) (by assumption) ?_
      simp only [Act.put, List.setIfInBounds_toArray, List.set_cons_zero, List.set_cons_succ]
      refine wpAnyH_ready (rs := [23]) (by kernel_rfl) (by simp) ?_
      refine AllReadyH.cons (o := ⟨none, _, _, _, _, _⟩) rfl (fun KK hK => ?_) AllReadyH.nil
      have cR9 := (HR0.out.below HV.out.bel HR0.out.lt).cell 0 rfl
      have fR : w9.frozen? ⟨R, 0, none⟩ = false := (HR0.out.below HV.out.bel HR0.out.lt).free 0
      have HEND := Lib.hid (show RS N (w9.setCell ⟨R, 0, none⟩ (.slice (some ⟨g9, 0, none⟩) (([] : List (Key × Rest)).length + 1) cap9)) R (([] : List (Key × Rest)) ++ [((m.sym, m.id), ⟨m.code, m.price, m.qty⟩)]) ∧ Chg w.heap.size R w (w9.setCell ⟨R, 0, none⟩ (.slice (some ⟨g9, 0, none⟩) (([] : List (Key × Rest)).length + 1) cap9)) ∧ Blk (w9.setCell ⟨R, 0, none⟩ (.slice (some ⟨g9, 0, none⟩) (([] : List (Key × Rest)).length + 1) cap9)) w.heap.size m.cells 66 from HV.out.done HR0.out hRN hN _ rfl)
      go_simp
      change KK _ (w9.setCell ⟨R, 0, none⟩ (.slice (some ⟨g9, 0, none⟩) (([] : List (Key × Rest)).length + 1) cap9))
      generalize w9.setCell ⟨R, 0, none⟩ (.slice (some ⟨g9, 0, none⟩) (([] : List (Key × Rest)).length + 1) cap9) = w10 at HEND ⊢
      refine hK.out _ _ ⟨HEND.out.2.2.cell 1 rfl, HEND.out.2.2.cell 4 rfl, HEND.out.2.2.cell 6 rfl, HEND.out.2.2.cell 7 rfl, HEND.out.2.2.cell 8 rfl⟩ (fun hHeld => ?_)
      clear hK; try clear KK
      refine wpAnyH_done (by kernel_rfl) ?_ _
      go_wp2_with fail
      go_ret
      exact ⟨by (show Ending.returned (.bool true) = _; rw [HE.out]), by rw [HE.out]; exact HEND.out.1, HEND.out.2.1⟩
  · go_simp
    change KK _ (W2.alloc (.cells (rowC ((m.sym, m.id), ⟨m.code, m.price, m.qty⟩)) 172))
    replace HA := Lib.hid HA.out.alloc_n
    generalize W2.alloc (.cells (rowC ((m.sym, m.id), ⟨m.code, m.price, m.qty⟩)) 172) = W12 at HA ⊢
    generalize W2.heap.size = nb1 at HA ⊢
    refine hK.out _ _ ⟨HA.out.mb.cell 1 rfl, HA.out.mb.cell 4 rfl, HA.out.mb.cell 6 rfl, HA.out.mb.cell 7 rfl, HA.out.mb.cell 8 rfl⟩ (fun hHeld => ?_)
    clear hK; try clear KK
    try simp only [Act.put, List.setIfInBounds_toArray, List.set_cons_zero, List.set_cons_succ]
    refine wpAnyH_ready (rs := [1, 5]) (by kernel_rfl) (by simp) ?_
    refine AllReadyH.cons (o := ⟨some 45, _, _, _, _, _⟩) rfl (fun KK hK => ?_) (AllReadyH.cons (o := ⟨some 49, _, _, _, _, _⟩) rfl (fun KK hK => ?_) (AllReadyH.nil))
    · go_simp
      change KK _ (W12.alloc (.cells #[] 172))
      replace HA := Lib.hid HA.out.alloc_e
      generalize W12.alloc (.cells #[] 172) = W13 at HA ⊢
      generalize W12.heap.size = e1 at HA ⊢
      refine hK.out _ _ ⟨HA.out.mb.cell 1 rfl, HA.out.mb.cell 4 rfl, HA.out.mb.cell 6 rfl, HA.out.mb.cell 7 rfl, HA.out.mb.cell 8 rfl⟩ (fun hHeld => ?_)
      clear hK; try clear KK
      try simp only [Act.put, List.setIfInBounds_toArray, List.set_cons_zero, List.set_cons_succ]
      refine wpAnyH_ready (rs := [5]) (by kernel_rfl) (by simp) ?_
      refine AllReadyH.cons (o := ⟨some 49, _, _, _, _, _⟩) rfl (fun KK hK => ?_) AllReadyH.nil
      have cR : W13.cell? ⟨R, 0, none⟩ = some (.slice none 0 0) := by rw [HA.out.bel.cell (p := ⟨R, 0, none⟩) HR0.out.lt]; exact HR0.out.cell 0 rfl
      go_simp
      clear cR
      refine hK.out _ _ ⟨HA.out.mb.cell 1 rfl, HA.out.mb.cell 4 rfl, HA.out.mb.cell 6 rfl, HA.out.mb.cell 7 rfl, HA.out.mb.cell 8 rfl⟩ (fun hHeld => ?_)
      clear hK; try clear KK
      try simp only [Act.put, List.setIfInBounds_toArray, List.set_cons_zero, List.set_cons_succ]
      refine wpAnyH_ready (rs := [6]) (by kernel_rfl) (by simp) ?_
      refine AllReadyH.cons (o := ⟨some 50, _, _, _, _, _⟩) rfl (fun KK hK => ?_) AllReadyH.nil
      refine step_append_none (by rfl) _ _ _ (by rfl) (w.heap.size + 1) 172 i0 8 Try.underlying72 hi0 _ 0 [] (by rfl) (HA.out.er e1 rfl) (by rfl) ?_
      have HV := Lib.hid HA.out.still
      clear HA
      refine hK.out _ _ ⟨HV.out.mb.cell 1 rfl, HV.out.mb.cell 4 rfl, HV.out.mb.cell 6 rfl, HV.out.mb.cell 7 rfl, HV.out.mb.cell 8 rfl⟩ (fun hHeld => ?_)
      clear hK; try clear KK
      try simp only [Act.put, List.setIfInBounds_toArray, List.set_cons_zero, List.set_cons_succ]
      refine wpAnyH_ready (rs := [20]) (by kernel_rfl) (by simp) ?_
      refine AllReadyH.cons (o := ⟨some 64, _, _, _, _, _⟩) rfl (fun KK hK => ?_) AllReadyH.nil
      refine step_append_lies _ (by rfl) _ _ _ (by rfl) (w.heap.size + 1) 172 i0 (.agg rowZ) 8 64 Try.underlying72 hi0 hz0 hz1 hz2 (by rfl) (by decide) _ ([] : List (Key × Rest)).length (rowsR ([] : List (Key × Rest))) (by rfl) HV.out.own ⟨nb1, 0, none⟩ 1 1 (rowC ((m.sym, m.id), ⟨m.code, m.price, m.qty⟩)).toList (by rfl) (by rfl) (news_blk (HV.out.nr nb1 rfl).1) (one_mem (one_row _)) (by decide) (by unfold maxLen; (try simp only [List.length_nil]); omega) (by (try simp only [List.length_nil]); omega) HV.out.le W13.heap.size rfl ?_
      intro g9 cap9 w9 hown9 hgrow9 hat9 hlt9
      replace HV := Lib.hid (HV.out.push hown9 hgrow9)
      clear hown9 hgrow9 hat9 hlt9
      refine hK.out _ _ ⟨HV.out.mb.cell 1 rfl, HV.out.mb.cell 4 rfl, HV.out.mb.cell 6 rfl, HV.out.mb.cell 7 rfl, HV.out.mb.cell 8 rfl⟩ (fun hHeld => ?_)
      clear hK; try clear KK
      try simp only [Act.put, List.setIfInBounds_toArray, List.set_cons_zero, List.set_cons_succ]
      refine wpAnyH_take (i := 21) (oi := ⟨some 65, _, _, _, _, _⟩) (v := (.pointer (some ⟨R, 0, none⟩))) rfl (by kernel_rfl) (by kernel_rfl) (by kernel_rfl) (fun _ _ _ h => h) (Or.inl ⟨by rfl, fun w hSw => by (try dsimp only at hSw); go_simp⟩) (by assumption) ?_
      simp only [Act.put, List.setIfInBounds_toArray, List.set_cons_zero, List.set_cons_succ]
      refine wpAnyH_take (i := 22) (oi := ⟨some 66, _, _, _, _, _⟩) (v := (.pointer (some ⟨R, 0, none⟩))) rfl (by kernel_rfl) (by kernel_rfl) (by kernel_rfl) (fun _ _ _ h => h) (Or.inl ⟨by rfl, fun w hSw => by (try dsimp only at hSw); go_simp⟩) (by assumption) ?_
      simp only [Act.put, List.setIfInBounds_toArray, List.set_cons_zero, List.set_cons_succ]
      refine wpAnyH_ready (rs := [23]) (by kernel_rfl) (by simp) ?_
      refine AllReadyH.cons (o := ⟨none, _, _, _, _, _⟩) rfl (fun KK hK => ?_) AllReadyH.nil
      have cR9 := (HR0.out.below HV.out.bel HR0.out.lt).cell 0 rfl
      have fR : w9.frozen? ⟨R, 0, none⟩ = false := (HR0.out.below HV.out.bel HR0.out.lt).free 0
      have HEND := Lib.hid (show RS N (w9.setCell ⟨R, 0, none⟩ (.slice (some ⟨g9, 0, none⟩) (([] : List (Key × Rest)).length + 1) cap9)) R (([] : List (Key × Rest)) ++ [((m.sym, m.id), ⟨m.code, m.price, m.qty⟩)]) ∧ Chg w.heap.size R w (w9.setCell ⟨R, 0, none⟩ (.slice (some ⟨g9, 0, none⟩) (([] : List (Key × Rest)).length + 1) cap9)) ∧ Blk (w9.setCell ⟨R, 0, none⟩ (.slice (some ⟨g9, 0, none⟩) (([] : List (Key × Rest)).length + 1) cap9)) w.heap.size m.cells 66 from HV.out.done HR0.out hRN hN _ rfl)
      go_simp
      change KK _ (w9.setCell ⟨R, 0, none⟩ (.slice (some ⟨g9, 0, none⟩) (([] : List (Key × Rest)).length + 1) cap9))
      generalize w9.setCell ⟨R, 0, none⟩ (.slice (some ⟨g9, 0, none⟩) (([] : List (Key × Rest)).length + 1) cap9) = w10 at HEND ⊢
      refine hK.out _ _ ⟨HEND.out.2.2.cell 1 rfl, HEND.out.2.2.cell 4 rfl, HEND.out.2.2.cell 6 rfl, HEND.out.2.2.cell 7 rfl, HEND.out.2.2.cell 8 rfl⟩ (fun hHeld => ?_)
      clear hK; try clear KK
      refine wpAnyH_done (by kernel_rfl) ?_ _
      go_wp2_with fail
      go_ret
      exact ⟨by (show Ending.returned (.bool true) = _; rw [HE.out]), by rw [HE.out]; exact HEND.out.1, HEND.out.2.1⟩
    · have cR : W12.cell? ⟨R, 0, none⟩ = some (.slice none 0 0) := by rw [HA.out.bel.cell (p := ⟨R, 0, none⟩) HR0.out.lt]; exact HR0.out.cell 0 rfl
      go_simp
      clear cR
      refine hK.out _ _ ⟨HA.out.mb.cell 1 rfl, HA.out.mb.cell 4 rfl, HA.out.mb.cell 6 rfl, HA.out.mb.cell 7 rfl, HA.out.mb.cell 8 rfl⟩ (fun hHeld => ?_)
      clear hK; try clear KK
      try simp only [Act.put, List.setIfInBounds_toArray, List.set_cons_zero, List.set_cons_succ]
      refine wpAnyH_ready (rs := [1]) (by kernel_rfl) (by simp) ?_
      refine AllReadyH.cons (o := ⟨some 45, _, _, _, _, _⟩) rfl (fun KK hK => ?_) AllReadyH.nil
      go_simp
      change KK _ (W12.alloc (.cells #[] 172))
      replace HA := Lib.hid HA.out.alloc_e
      generalize W12.alloc (.cells #[] 172) = W14 at HA ⊢
      generalize W12.heap.size = e1 at HA ⊢
      refine hK.out _ _ ⟨HA.out.mb.cell 1 rfl, HA.out.mb.cell 4 rfl, HA.out.mb.cell 6 rfl, HA.out.mb.cell 7 rfl, HA.out.mb.cell 8 rfl⟩ (fun hHeld => ?_)
      clear hK; try clear KK
      try simp only [Act.put, List.setIfInBounds_toArray, List.set_cons_zero, List.set_cons_succ]
      refine wpAnyH_ready (rs := [6]) (by kernel_rfl) (by simp) ?_
      refine AllReadyH.cons (o := ⟨some 50, _, _, _, _, _⟩) rfl (fun KK hK => ?_) AllReadyH.nil
      refine step_append_none (by rfl) _ _ _ (by rfl) (w.heap.size + 1) 172 i0 8 Try.underlying72 hi0 _ 0 [] (by rfl) (HA.out.er e1 rfl) (by rfl) ?_
      have HV := Lib.hid HA.out.still
      clear HA
      refine hK.out _ _ ⟨HV.out.mb.cell 1 rfl, HV.out.mb.cell 4 rfl, HV.out.mb.cell 6 rfl, HV.out.mb.cell 7 rfl, HV.out.mb.cell 8 rfl⟩ (fun hHeld => ?_)
      clear hK; try clear KK
      try simp only [Act.put, List.setIfInBounds_toArray, List.set_cons_zero, List.set_cons_succ]
      refine wpAnyH_ready (rs := [20]) (by kernel_rfl) (by simp) ?_
      refine AllReadyH.cons (o := ⟨some 64, _, _, _, _, _⟩) rfl (fun KK hK => ?_) AllReadyH.nil
      refine step_append_lies _ (by rfl) _ _ _ (by rfl) (w.heap.size + 1) 172 i0 (.agg rowZ) 8 64 Try.underlying72 hi0 hz0 hz1 hz2 (by rfl) (by decide) _ ([] : List (Key × Rest)).length (rowsR ([] : List (Key × Rest))) (by rfl) HV.out.own ⟨nb1, 0, none⟩ 1 1 (rowC ((m.sym, m.id), ⟨m.code, m.price, m.qty⟩)).toList (by rfl) (by rfl) (news_blk (HV.out.nr nb1 rfl).1) (one_mem (one_row _)) (by decide) (by unfold maxLen; (try simp only [List.length_nil]); omega) (by (try simp only [List.length_nil]); omega) HV.out.le W14.heap.size rfl ?_
      intro g9 cap9 w9 hown9 hgrow9 hat9 hlt9
      replace HV := Lib.hid (HV.out.push hown9 hgrow9)
      clear hown9 hgrow9 hat9 hlt9
      refine hK.out _ _ ⟨HV.out.mb.cell 1 rfl, HV.out.mb.cell 4 rfl, HV.out.mb.cell 6 rfl, HV.out.mb.cell 7 rfl, HV.out.mb.cell 8 rfl⟩ (fun hHeld => ?_)
      clear hK; try clear KK
      try simp only [Act.put, List.setIfInBounds_toArray, List.set_cons_zero, List.set_cons_succ]
      refine wpAnyH_take (i := 21) (oi := ⟨some 65, _, _, _, _, _⟩) (v := (.pointer (some ⟨R, 0, none⟩))) rfl (by kernel_rfl) (by kernel_rfl) (by kernel_rfl) (fun _ _ _ h => h) (Or.inl ⟨by rfl, fun w hSw => by (try dsimp only at hSw); go_simp⟩) (by assumption) ?_
      simp only [Act.put, List.setIfInBounds_toArray, List.set_cons_zero, List.set_cons_succ]
      refine wpAnyH_take (i := 22) (oi := ⟨some 66, _, _, _, _, _⟩) (v := (.pointer (some ⟨R, 0, none⟩))) rfl (by kernel_rfl) (by kernel_rfl) (by kernel_rfl) (fun _ _ _ h => h) (Or.inl ⟨by rfl, fun w hSw => by (try dsimp only at hSw); go_simp⟩) (by assumption) ?_
      simp only [Act.put, List.setIfInBounds_toArray, List.set_cons_zero, List.set_cons_succ]
      refine wpAnyH_ready (rs := [23]) (by kernel_rfl) (by simp) ?_
      refine AllReadyH.cons (o := ⟨none, _, _, _, _, _⟩) rfl (fun KK hK => ?_) AllReadyH.nil
      have cR9 := (HR0.out.below HV.out.bel HR0.out.lt).cell 0 rfl
      have fR : w9.frozen? ⟨R, 0, none⟩ = false := (HR0.out.below HV.out.bel HR0.out.lt).free 0
      have HEND := Lib.hid (show RS N (w9.setCell ⟨R, 0, none⟩ (.slice (some ⟨g9, 0, none⟩) (([] : List (Key × Rest)).length + 1) cap9)) R (([] : List (Key × Rest)) ++ [((m.sym, m.id), ⟨m.code, m.price, m.qty⟩)]) ∧ Chg w.heap.size R w (w9.setCell ⟨R, 0, none⟩ (.slice (some ⟨g9, 0, none⟩) (([] : List (Key × Rest)).length + 1) cap9)) ∧ Blk (w9.setCell ⟨R, 0, none⟩ (.slice (some ⟨g9, 0, none⟩) (([] : List (Key × Rest)).length + 1) cap9)) w.heap.size m.cells 66 from HV.out.done HR0.out hRN hN _ rfl)
      go_simp
      change KK _ (w9.setCell ⟨R, 0, none⟩ (.slice (some ⟨g9, 0, none⟩) (([] : List (Key × Rest)).length + 1) cap9))
      generalize w9.setCell ⟨R, 0, none⟩ (.slice (some ⟨g9, 0, none⟩) (([] : List (Key × Rest)).length + 1) cap9) = w10 at HEND ⊢
      refine hK.out _ _ ⟨HEND.out.2.2.cell 1 rfl, HEND.out.2.2.cell 4 rfl, HEND.out.2.2.cell 6 rfl, HEND.out.2.2.cell 7 rfl, HEND.out.2.2.cell 8 rfl⟩ (fun hHeld => ?_)
      clear hK; try clear KK
      refine wpAnyH_done (by kernel_rfl) ?_ _
      go_wp2_with fail
      go_ret
      exact ⟨by (show Ending.returned (.bool true) = _; rw [HE.out]), by rw [HE.out]; exact HEND.out.1, HEND.out.2.1⟩

set_option maxRecDepth 20000 in
set_option maxHeartbeats 4000000 in
theorem rput_ack (N R : Nat) (L : List (Key × Rest)) (m : Msg) (w : World) (h : RS N w R L) (hN : N ≤ w.heap.size) (hl : L.length ≤ 900) (h1 : m.kind = 1) :
    Calls Try.prog 38 #[.pointer (some ⟨R, 0, none⟩), .agg m.cells] w (RPutIs N R L m w) := by
  have g1 : (m.kind == 1) = true := by simp [h1]
  by_cases hq : m.qty < 1
  · have HE := Lib.hid (show putF L m = (L, false) by simp [putF, h1, hq])
    clear h1
    have HS := Lib.hid (rb_start m h hN)
    clear h
    have m0 : (w.alloc (.cells m.cells 66)).cell? ⟨w.heap.size, 0, none⟩ = some (.int .i64 m.kind) := HS.out.mb.cell 0 rfl
    have m1 : (w.alloc (.cells m.cells 66)).cell? ⟨w.heap.size, 1, none⟩ = some (.int .i64 m.sym) := HS.out.mb.cell 1 rfl
    have m4 : (w.alloc (.cells m.cells 66)).cell? ⟨w.heap.size, 4, none⟩ = some (.int .i64 m.id) := HS.out.mb.cell 4 rfl
    have m5 : (w.alloc (.cells m.cells 66)).cell? ⟨w.heap.size, 5, none⟩ = some (.int .i64 m.wth) := HS.out.mb.cell 5 rfl
    have m6 : (w.alloc (.cells m.cells 66)).cell? ⟨w.heap.size, 6, none⟩ = some (.int .i64 m.price) := HS.out.mb.cell 6 rfl
    have m7 : (w.alloc (.cells m.cells 66)).cell? ⟨w.heap.size, 7, none⟩ = some (.int .i64 m.qty) := HS.out.mb.cell 7 rfl
    have m8 : (w.alloc (.cells m.cells 66)).cell? ⟨w.heap.size, 8, none⟩ = some (.int .i64 m.code) := HS.out.mb.cell 8 rfl
    go_enter Try.func38, Try.ntmps38
    go_wp2_with fail
    go_ret
    exact ⟨by (show Ending.returned (.bool false) = _; rw [HE.out]; first | done | rfl), by rw [HE.out]; exact HS.out.rs, HS.out.chg⟩
  · by_cases hc : m.code = 0 ∨ m.code = 1
    · have HCC : ((m.code != 0) = false) ∨ ((m.code != 0) = true ∧ (m.code != 1) = false) := by
        rcases hc with hc | hc
        · exact .inl (by simp [hc])
        · exact .inr ⟨by simp [hc], by simp [hc]⟩
      by_cases hp1 : m.price < 1
      · have HE := Lib.hid (show putF L m = (L, false) by
          have : ¬ (1 ≤ m.price ∧ m.price ≤ 1099511627776) := fun h => by omega
          simp [putF, h1, this])
        clear h1 hc
        rcases HCC with c0 | ⟨c0, c1⟩
        · have HS := Lib.hid (rb_start m h hN)
          clear h
          have m0 : (w.alloc (.cells m.cells 66)).cell? ⟨w.heap.size, 0, none⟩ = some (.int .i64 m.kind) := HS.out.mb.cell 0 rfl
          have m1 : (w.alloc (.cells m.cells 66)).cell? ⟨w.heap.size, 1, none⟩ = some (.int .i64 m.sym) := HS.out.mb.cell 1 rfl
          have m4 : (w.alloc (.cells m.cells 66)).cell? ⟨w.heap.size, 4, none⟩ = some (.int .i64 m.id) := HS.out.mb.cell 4 rfl
          have m5 : (w.alloc (.cells m.cells 66)).cell? ⟨w.heap.size, 5, none⟩ = some (.int .i64 m.wth) := HS.out.mb.cell 5 rfl
          have m6 : (w.alloc (.cells m.cells 66)).cell? ⟨w.heap.size, 6, none⟩ = some (.int .i64 m.price) := HS.out.mb.cell 6 rfl
          have m7 : (w.alloc (.cells m.cells 66)).cell? ⟨w.heap.size, 7, none⟩ = some (.int .i64 m.qty) := HS.out.mb.cell 7 rfl
          have m8 : (w.alloc (.cells m.cells 66)).cell? ⟨w.heap.size, 8, none⟩ = some (.int .i64 m.code) := HS.out.mb.cell 8 rfl
          go_enter Try.func38, Try.ntmps38
          go_wp2_with fail
          go_ret
          exact ⟨by (show Ending.returned (.bool false) = _; rw [HE.out]; first | done | rfl), by rw [HE.out]; exact HS.out.rs, HS.out.chg⟩
        · have HS := Lib.hid (rb_start m h hN)
          clear h
          have m0 : (w.alloc (.cells m.cells 66)).cell? ⟨w.heap.size, 0, none⟩ = some (.int .i64 m.kind) := HS.out.mb.cell 0 rfl
          have m1 : (w.alloc (.cells m.cells 66)).cell? ⟨w.heap.size, 1, none⟩ = some (.int .i64 m.sym) := HS.out.mb.cell 1 rfl
          have m4 : (w.alloc (.cells m.cells 66)).cell? ⟨w.heap.size, 4, none⟩ = some (.int .i64 m.id) := HS.out.mb.cell 4 rfl
          have m5 : (w.alloc (.cells m.cells 66)).cell? ⟨w.heap.size, 5, none⟩ = some (.int .i64 m.wth) := HS.out.mb.cell 5 rfl
          have m6 : (w.alloc (.cells m.cells 66)).cell? ⟨w.heap.size, 6, none⟩ = some (.int .i64 m.price) := HS.out.mb.cell 6 rfl
          have m7 : (w.alloc (.cells m.cells 66)).cell? ⟨w.heap.size, 7, none⟩ = some (.int .i64 m.qty) := HS.out.mb.cell 7 rfl
          have m8 : (w.alloc (.cells m.cells 66)).cell? ⟨w.heap.size, 8, none⟩ = some (.int .i64 m.code) := HS.out.mb.cell 8 rfl
          go_enter Try.func38, Try.ntmps38
          go_wp2_with fail
          go_ret
          exact ⟨by (show Ending.returned (.bool false) = _; rw [HE.out]; first | done | rfl), by rw [HE.out]; exact HS.out.rs, HS.out.chg⟩
      · by_cases hp2 : 1099511627776 < m.price
        · have HE := Lib.hid (show putF L m = (L, false) by
            have : ¬ (1 ≤ m.price ∧ m.price ≤ 1099511627776) := fun h => by omega
            simp [putF, h1, this])
          clear h1 hc
          rcases HCC with c0 | ⟨c0, c1⟩
          · have HS := Lib.hid (rb_start m h hN)
            clear h
            have m0 : (w.alloc (.cells m.cells 66)).cell? ⟨w.heap.size, 0, none⟩ = some (.int .i64 m.kind) := HS.out.mb.cell 0 rfl
            have m1 : (w.alloc (.cells m.cells 66)).cell? ⟨w.heap.size, 1, none⟩ = some (.int .i64 m.sym) := HS.out.mb.cell 1 rfl
            have m4 : (w.alloc (.cells m.cells 66)).cell? ⟨w.heap.size, 4, none⟩ = some (.int .i64 m.id) := HS.out.mb.cell 4 rfl
            have m5 : (w.alloc (.cells m.cells 66)).cell? ⟨w.heap.size, 5, none⟩ = some (.int .i64 m.wth) := HS.out.mb.cell 5 rfl
            have m6 : (w.alloc (.cells m.cells 66)).cell? ⟨w.heap.size, 6, none⟩ = some (.int .i64 m.price) := HS.out.mb.cell 6 rfl
            have m7 : (w.alloc (.cells m.cells 66)).cell? ⟨w.heap.size, 7, none⟩ = some (.int .i64 m.qty) := HS.out.mb.cell 7 rfl
            have m8 : (w.alloc (.cells m.cells 66)).cell? ⟨w.heap.size, 8, none⟩ = some (.int .i64 m.code) := HS.out.mb.cell 8 rfl
            go_enter Try.func38, Try.ntmps38
            go_wp2_with fail
            go_ret
            exact ⟨by (show Ending.returned (.bool false) = _; rw [HE.out]; first | done | rfl), by rw [HE.out]; exact HS.out.rs, HS.out.chg⟩
          · have HS := Lib.hid (rb_start m h hN)
            clear h
            have m0 : (w.alloc (.cells m.cells 66)).cell? ⟨w.heap.size, 0, none⟩ = some (.int .i64 m.kind) := HS.out.mb.cell 0 rfl
            have m1 : (w.alloc (.cells m.cells 66)).cell? ⟨w.heap.size, 1, none⟩ = some (.int .i64 m.sym) := HS.out.mb.cell 1 rfl
            have m4 : (w.alloc (.cells m.cells 66)).cell? ⟨w.heap.size, 4, none⟩ = some (.int .i64 m.id) := HS.out.mb.cell 4 rfl
            have m5 : (w.alloc (.cells m.cells 66)).cell? ⟨w.heap.size, 5, none⟩ = some (.int .i64 m.wth) := HS.out.mb.cell 5 rfl
            have m6 : (w.alloc (.cells m.cells 66)).cell? ⟨w.heap.size, 6, none⟩ = some (.int .i64 m.price) := HS.out.mb.cell 6 rfl
            have m7 : (w.alloc (.cells m.cells 66)).cell? ⟨w.heap.size, 7, none⟩ = some (.int .i64 m.qty) := HS.out.mb.cell 7 rfl
            have m8 : (w.alloc (.cells m.cells 66)).cell? ⟨w.heap.size, 8, none⟩ = some (.int .i64 m.code) := HS.out.mb.cell 8 rfl
            go_enter Try.func38, Try.ntmps38
            go_wp2_with fail
            go_ret
            exact ⟨by (show Ending.returned (.bool false) = _; rw [HE.out]; first | done | rfl), by rw [HE.out]; exact HS.out.rs, HS.out.chg⟩
        · cases hk : mget (m.sym, m.id) L with
          | some x =>
            have HE := Lib.hid (show putF L m = (L, false) by simp [putF, h1, hk])
            have HFE : findF L (m.sym, m.id) = (midx (m.sym, m.id) L : Int) := by simp [findF, hk]
            clear h1 hc hk
            rcases HCC with c0 | ⟨c0, c1⟩
            · have HS := Lib.hid (rb_start m h hN)
              clear h
              have m0 : (w.alloc (.cells m.cells 66)).cell? ⟨w.heap.size, 0, none⟩ = some (.int .i64 m.kind) := HS.out.mb.cell 0 rfl
              have m1 : (w.alloc (.cells m.cells 66)).cell? ⟨w.heap.size, 1, none⟩ = some (.int .i64 m.sym) := HS.out.mb.cell 1 rfl
              have m4 : (w.alloc (.cells m.cells 66)).cell? ⟨w.heap.size, 4, none⟩ = some (.int .i64 m.id) := HS.out.mb.cell 4 rfl
              have m5 : (w.alloc (.cells m.cells 66)).cell? ⟨w.heap.size, 5, none⟩ = some (.int .i64 m.wth) := HS.out.mb.cell 5 rfl
              have m6 : (w.alloc (.cells m.cells 66)).cell? ⟨w.heap.size, 6, none⟩ = some (.int .i64 m.price) := HS.out.mb.cell 6 rfl
              have m7 : (w.alloc (.cells m.cells 66)).cell? ⟨w.heap.size, 7, none⟩ = some (.int .i64 m.qty) := HS.out.mb.cell 7 rfl
              have m8 : (w.alloc (.cells m.cells 66)).cell? ⟨w.heap.size, 8, none⟩ = some (.int .i64 m.code) := HS.out.mb.cell 8 rfl
              go_enter Try.func38, Try.ntmps38
              go_wp2_with fail
              refine (find_any N R L m.sym m.id _ HS.out.rs).mono ?_
              rintro e w2 ⟨rfl, rfl⟩
              rw [HFE]
              go_wp2_with fail
              go_ret
              exact ⟨by (show Ending.returned (.bool false) = _; rw [HE.out]; first | done | rfl), by rw [HE.out]; exact HS.out.rs, HS.out.chg⟩
            · have HS := Lib.hid (rb_start m h hN)
              clear h
              have m0 : (w.alloc (.cells m.cells 66)).cell? ⟨w.heap.size, 0, none⟩ = some (.int .i64 m.kind) := HS.out.mb.cell 0 rfl
              have m1 : (w.alloc (.cells m.cells 66)).cell? ⟨w.heap.size, 1, none⟩ = some (.int .i64 m.sym) := HS.out.mb.cell 1 rfl
              have m4 : (w.alloc (.cells m.cells 66)).cell? ⟨w.heap.size, 4, none⟩ = some (.int .i64 m.id) := HS.out.mb.cell 4 rfl
              have m5 : (w.alloc (.cells m.cells 66)).cell? ⟨w.heap.size, 5, none⟩ = some (.int .i64 m.wth) := HS.out.mb.cell 5 rfl
              have m6 : (w.alloc (.cells m.cells 66)).cell? ⟨w.heap.size, 6, none⟩ = some (.int .i64 m.price) := HS.out.mb.cell 6 rfl
              have m7 : (w.alloc (.cells m.cells 66)).cell? ⟨w.heap.size, 7, none⟩ = some (.int .i64 m.qty) := HS.out.mb.cell 7 rfl
              have m8 : (w.alloc (.cells m.cells 66)).cell? ⟨w.heap.size, 8, none⟩ = some (.int .i64 m.code) := HS.out.mb.cell 8 rfl
              go_enter Try.func38, Try.ntmps38
              go_wp2_with fail
              refine (find_any N R L m.sym m.id _ HS.out.rs).mono ?_
              rintro e w2 ⟨rfl, rfl⟩
              rw [HFE]
              go_wp2_with fail
              go_ret
              exact ⟨by (show Ending.returned (.bool false) = _; rw [HE.out]; first | done | rfl), by rw [HE.out]; exact HS.out.rs, HS.out.chg⟩
          | none =>
            rcases HCC with c0 | ⟨c0, c1⟩
            · by_cases hLp : 0 < L.length
              · exact ack_full0 N R L m w h hN hl hLp h1 hq hc c0 hp1 hp2 hk
              · obtain rfl : L = [] := List.eq_nil_of_length_eq_zero (by omega)
                exact ack_none0 N R m w h hN h1 hq hc c0 hp1 hp2
            · by_cases hLp : 0 < L.length
              · exact ack_full1 N R L m w h hN hl hLp h1 hq hc c0 c1 hp1 hp2 hk
              · obtain rfl : L = [] := List.eq_nil_of_length_eq_zero (by omega)
                exact ack_none1 N R m w h hN h1 hq hc c0 c1 hp1 hp2
    · have HE := Lib.hid (show putF L m = (L, false) by simp [putF, h1, hc])
      have c0 : (m.code != 0) = true := by simpa using fun e => hc (.inl e)
      have c1 : (m.code != 1) = true := by simpa using fun e => hc (.inr e)
      clear h1 hc
      have HS := Lib.hid (rb_start m h hN)
      clear h
      have m0 : (w.alloc (.cells m.cells 66)).cell? ⟨w.heap.size, 0, none⟩ = some (.int .i64 m.kind) := HS.out.mb.cell 0 rfl
      have m1 : (w.alloc (.cells m.cells 66)).cell? ⟨w.heap.size, 1, none⟩ = some (.int .i64 m.sym) := HS.out.mb.cell 1 rfl
      have m4 : (w.alloc (.cells m.cells 66)).cell? ⟨w.heap.size, 4, none⟩ = some (.int .i64 m.id) := HS.out.mb.cell 4 rfl
      have m5 : (w.alloc (.cells m.cells 66)).cell? ⟨w.heap.size, 5, none⟩ = some (.int .i64 m.wth) := HS.out.mb.cell 5 rfl
      have m6 : (w.alloc (.cells m.cells 66)).cell? ⟨w.heap.size, 6, none⟩ = some (.int .i64 m.price) := HS.out.mb.cell 6 rfl
      have m7 : (w.alloc (.cells m.cells 66)).cell? ⟨w.heap.size, 7, none⟩ = some (.int .i64 m.qty) := HS.out.mb.cell 7 rfl
      have m8 : (w.alloc (.cells m.cells 66)).cell? ⟨w.heap.size, 8, none⟩ = some (.int .i64 m.code) := HS.out.mb.cell 8 rfl
      go_enter Try.func38, Try.ntmps38
      go_wp2_with fail
      go_ret
      exact ⟨by (show Ending.returned (.bool false) = _; rw [HE.out]; first | done | rfl), by rw [HE.out]; exact HS.out.rs, HS.out.chg⟩

/-- Any message. -/
theorem rput_any (N R : Nat) (L : List (Key × Rest)) (m : Msg) (w : World) (h : RS N w R L) (hN : N ≤ w.heap.size) (hok : OkL L) (hl : L.length ≤ 900) (hq1 : m.qty ≤ 1125899906842624) :
    Calls Try.prog 38 #[.pointer (some ⟨R, 0, none⟩), .agg m.cells] w (RPutIs N R L m w) := by
  by_cases h1 : m.kind = 1
  · exact rput_ack N R L m w h hN hl h1
  · by_cases h3 : m.kind = 3
    · exact rput_trade N R L m w h hN hok hl h3 hq1
    · by_cases h4 : m.kind = 4
      · exact rput_done N R L m w h hN hok hl h4
      · exact rput_other N R L m w h hN h1 h3 h4
end Go.Proofs.Ytogjgpiddjmpiaa.Depth
