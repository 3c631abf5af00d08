/- Parts of the proof: DepthP. -/
import Derived.Test.YtogjgpiddjmpiaaPart4
import Derived.Test.YtogjgpiddjmpiaaPart6
import Derived.Test.YtogjgpiddjmpiaaPart1

/- (*depth.Depth).Put. -/
namespace Go.Proofs.Ytogjgpiddjmpiaa.Depth
open Go.RowKit Go.Proofs.Ytogjgpiddjmpiaa.Kit Go.Proofs.Ytogjgpiddjmpiaa.Blk Go.Proofs.Ytogjgpiddjmpiaa.Mp Go.Proofs.Ytogjgpiddjmpiaa.Msgs
attribute [local go_sem ↓] Go.wp_at_zero Go.wp_at_succ
set_option linter.unusedVariables false

/-- What Put does: the rows behind it, and whether it changed something. -/
def putF (L : List (Key × Rest)) (m : Msg) : List (Key × Rest) × Bool :=
  if m.kind = 1 then
    if (mget (m.sym, m.id) L).isSome = true ∨ m.qty < 1 ∨ ¬ (m.code = 0 ∨ m.code = 1) ∨ ¬ (1 ≤ m.price ∧ m.price ≤ 1099511627776) then (L, false) else (mput (m.sym, m.id) ⟨m.code, m.price, m.qty⟩ L, true)
  else if m.kind = 3 then
    if m.qty < 1 then (L, false)
    else if m.code = 1 then lessF L (m.sym, m.id) m.qty
    else ((lessF (lessF L (m.sym, m.id) m.qty).1 (m.sym, m.wth) m.qty).1, (lessF L (m.sym, m.id) m.qty).2 || (lessF (lessF L (m.sym, m.id) m.qty).1 (m.sym, m.wth) m.qty).2)
  else if m.kind = 4 then
    match mget (m.sym, m.id) L with
    | none => (L, false)
    | some x => ((lessF L (m.sym, m.id) x.qty).1, true)
  else (L, false)
/-- Rows that rest. -/
def OkL (L : List (Key × Rest)) : Prop := ∀ p ∈ L, 1 ≤ p.2.qty ∧ p.2.qty ≤ 1125899906842624 ∧ (p.2.side = 0 ∨ p.2.side = 1) ∧ 1 ≤ p.2.price ∧ p.2.price ≤ 1099511627776
theorem mget_mem {k : Key} {x : Rest} {L : List (Key × Rest)} (h : mget k L = some x) : (k, x) ∈ L := by
  induction L with
  | nil => simp [mget] at h
  | cons p L ih =>
    obtain ⟨a, u⟩ := p
    by_cases hk : k = a
    · simp only [mget, hk, if_true, Option.some.injEq] at h
      rw [hk, h]; exact List.mem_cons_self
    · simp only [mget, hk, if_false] at h
      exact List.mem_cons_of_mem _ (ih h)
theorem mput_mem {k : Key} {v : Rest} {p : Key × Rest} {L : List (Key × Rest)} (h : p ∈ mput k v L) : p = (k, v) ∨ p ∈ L := by
  induction L with
  | nil => exact .inl (by simpa [mput] using h)
  | cons q L ih =>
    obtain ⟨a, u⟩ := q
    by_cases hk : k = a
    · simp only [mput, hk, if_true] at h
      rcases List.mem_cons.1 h with h | h
      · exact .inl (by rw [h, hk])
      · exact .inr (List.mem_cons_of_mem _ h)
    · simp only [mput, hk, if_false] at h
      rcases List.mem_cons.1 h with h | h
      · exact .inr (by rw [h]; exact List.mem_cons_self)
      · exact (ih h).imp id (List.mem_cons_of_mem _)
theorem mdel_mem {k : Key} {p : Key × Rest} {L : List (Key × Rest)} (h : p ∈ mdel k L) : p ∈ L := by
  induction L with
  | nil => simp [mdel] at h
  | cons q L ih =>
    obtain ⟨a, u⟩ := q
    by_cases hk : k = a
    · simp only [mdel, hk, if_true] at h; exact List.mem_cons_of_mem _ h
    · simp only [mdel, hk, if_false] at h
      rcases List.mem_cons.1 h with h | h
      · rw [h]; exact List.mem_cons_self
      · exact List.mem_cons_of_mem _ (ih h)
theorem ok_less {L : List (Key × Rest)} (h : OkL L) (k : Key) (q : Int) (hq : 0 ≤ q) : OkL (lessF L k q).1 := by
  unfold lessF
  cases hk : mget k L with
  | none => exact h
  | some x =>
    have hx := h _ (mget_mem hk)
    dsimp only at hx ⊢
    split
    · intro p hp
      rcases mput_mem hp with rfl | hp
      · exact ⟨by show 1 ≤ x.qty - q; omega, by show x.qty - q ≤ _; omega, hx.2.2.1, hx.2.2.2⟩
      · exact h p hp
    · exact fun p hp => h p (mdel_mem hp)
theorem ok_put {L : List (Key × Rest)} (h : OkL L) (m : Msg) (hm : m.qty ≤ 1125899906842624) : OkL (putF L m).1 := by
  unfold putF
  split
  · split
    · exact h
    · rename_i _ hn
      intro p hp
      rcases mput_mem hp with rfl | hp
      · exact ⟨by show 1 ≤ m.qty; omega, hm, by show m.code = 0 ∨ m.code = 1; omega, by show 1 ≤ m.price; omega, by show m.price ≤ _; omega⟩
      · exact h p hp
  · split
    · split
      · exact h
      · split
        · exact ok_less h _ _ (by omega)
        · exact ok_less (ok_less h _ _ (by omega)) _ _ (by omega)
    · split
      · cases hk : mget (m.sym, m.id) L with
        | none => exact h
        | some x => exact ok_less h _ _ (by have := (h _ (mget_mem hk)).1; dsimp only at this; omega)
      · exact h
/-- What Put answers. -/
def PutIs (L : List (Key × Rest)) (m : Msg) (D b : Nat) (w : World) (e : Ending) (w' : World) : Prop :=
  e = .returned (.bool (putF L m).2) ∧ DS w' D b (putF L m).1 ∧ Chg w.heap.size b w w'

theorem put_nil (m : Msg) (w : World) : Calls Try.prog 37 #[.pointer none, .agg m.cells] w fun e w' => e = .returned (.bool false) ∧ Below w.heap.size w w' := by
  have HB := Lib.hid (show Below w.heap.size w (w.alloc (.cells m.cells 66)) from (Below.refl _ _).alloc (Nat.le_refl _) _)
  go_enter Try.func37, Try.ntmps37
  go_wp2_with fail
  go_ret
  exact ⟨rfl, HB.out⟩

/-- Where Put stands. -/
structure QS (w : World) (D b : Nat) (m : Msg) (xb : Nat) (W : World) (L : List (Key × Rest)) (xc : Array Value) : Prop where
  ds : DS W D b L
  mb : Blk W w.heap.size m.cells 66
  kb : Blk W (w.heap.size + 1) #[.int .i64 m.sym, .int .i64 m.id] 164
  x : Blk W xb xc 166
  chg : Chg w.heap.size b w W
  ltD : D < w.heap.size
  ltb : b < w.heap.size
  gex : w.heap.size + 1 < xb
section
variable {w W W' : World} {D b xb : Nat} {m : Msg} {L L' : List (Key × Rest)} {xc : Array Value}
theorem QS.drew (h : QS w D b m xb W L xc) : QS w D b m xb W.drew L xc := ⟨h.ds.drew, h.mb, h.kb, h.x, h.chg.drew, h.ltD, h.ltb, h.gex⟩
theorem QS.mput (h : QS w D b m xb W L xc) (vs : Array Value) (hs : vs.size = xc.size) : QS w D b m xb (W.setCells xb 0 vs.toList) L vs :=
  have h1 := h.ltD; have h2 := h.gex
  ⟨h.ds.cells h.x (by omega) _ _, h.mb.apartAll _ _ _ (by omega), h.kb.apartAll _ _ _ (by omega), h.x.setCells vs hs, h.chg.setCells _ _ _ (.inr (by omega)), h.ltD, h.ltb, h.gex⟩
theorem QS.turnD (h : QS w D b m xb W L xc) (hd : DS W' D b L') (hc : Chg W.heap.size b W W') : QS w D b m xb W' L' xc :=
  have h1 := h.ltb; have h2 := h.gex
  ⟨hd, hc.blk h.mb.lt (by omega) h.mb, hc.blk h.kb.lt (by omega) h.kb, hc.blk h.x.lt (by omega) h.x, h.chg.trans (hc.mono h.chg.size), h.ltD, h.ltb, h.gex⟩
theorem QS.turn (h : QS w D b m xb W L xc) (hm : MapIs W' b ke ve L') (hc : Chg W.heap.size b W W') : QS w D b m xb W' L' xc := h.turnD (h.ds.turn hm hc) hc
end

set_option maxRecDepth 20000 in
set_option maxHeartbeats 2000000 in
theorem put_other (D b : Nat) (L : List (Key × Rest)) (m : Msg) (w : World) (h : DS w D b L) (h1 : m.kind ≠ 1) (h3 : m.kind ≠ 3) (h4 : m.kind ≠ 4) :
    Calls Try.prog 37 #[.pointer (some ⟨D, 0, none⟩), .agg m.cells] w (PutIs L m D b w) := by
  have HE := Lib.hid (show putF L m = (L, false) by simp [putF, h1, h3, h4])
  have g1 : (m.kind == 1) = false := by simpa using h1
  have g3 : (m.kind == 3) = false := by simpa using h3
  have g4 : (m.kind == 4) = false := by simpa using h4
  clear h1 h3 h4
  cases hk : mget (m.sym, m.id) L with
  | none =>
    have HD0 := Lib.hid ((h.alloc (.cells m.cells 66)).alloc (.cells #[.int .i64 m.sym, .int .i64 m.id] 164))
    have HM0 := Lib.hid ((Blk.new w m.cells 66 w.heap.size rfl).old (.cells #[.int .i64 m.sym, .int .i64 m.id] 164))
    have HK0 := Lib.hid (Blk.new (w.alloc (.cells m.cells 66)) #[.int .i64 m.sym, .int .i64 m.id] 164 (w.heap.size + 1) (by simp))
    have HC0 := Lib.hid (show Chg w.heap.size b w ((w.alloc (.cells m.cells 66)).alloc (.cells #[.int .i64 m.sym, .int .i64 m.id] 164)) from ((Chg.refl _ _ _).alloc (Nat.le_refl _) _).alloc (by simp) _)
    have hD := h.box.lt
    have hb := h.map.lt
    have m1 : (w.alloc (.cells m.cells 66)).cell? ⟨w.heap.size, 1, none⟩ = some (.int .i64 m.sym) := (Blk.new w m.cells 66 w.heap.size rfl).cell 1 rfl
    have m4 : (w.alloc (.cells m.cells 66)).cell? ⟨w.heap.size, 4, none⟩ = some (.int .i64 m.id) := (Blk.new w m.cells 66 w.heap.size rfl).cell 4 rfl
    have HL := Lib.hid (fun W (hm : MapIs W b ke ve L) => show (Instr.lookup 160 (.map (some b)) (.agg #[.int .i64 m.sym, .int .i64 m.id]) true).run Try.prog W = .ok (.tuple #[.agg #[.int .i64 (0), .int .i64 (0), .int .i64 (0)], .bool false]) W by have := look_at hm m.sym m.id; rw [hk] at this; exact this)
    have HK := Lib.hid hk
    clear h hk
    go_enter Try.func37, Try.ntmps37
    go_upto_region 4 with fail
    clear m1 m4
    change Code.wp _ _ _ _ ((w.alloc (.cells m.cells 66)).alloc (.cells #[.int .i64 m.sym, .int .i64 m.id] 164))
    refine wp_region_held_drew (S := (fun w' => w'.cell? ⟨D, 0, none⟩ = some (.map (some b)) ∧ w'.cell? ⟨w.heap.size + 1, 0, none⟩ = some (.int .i64 m.sym) ∧ w'.cell? ⟨w.heap.size + 1, 1, none⟩ = some (.int .i64 m.id) ∧ (Instr.lookup 160 (.map (some b)) (.agg #[.int .i64 m.sym, .int .i64 m.id]) true).run Try.prog w' = .ok (.tuple #[.agg #[.int .i64 (0), .int .i64 (0), .int .i64 (0)], .bool false]) w')) (by kernel_rfl) ⟨HD0.out.box.cell 0 rfl, HK0.out.cell 0 rfl, HK0.out.cell 1 rfl, HL.out _ HD0.out.map.drew⟩ (fun hHeld => ?_)
    replace HD0 := Lib.hid HD0.out.drew
    replace HM0 := Lib.hid HM0.out.drew
    replace HK0 := Lib.hid HK0.out.drew
    replace HC0 := Lib.hid HC0.out.drew
    have hsz : w.heap.size + 1 < ((w.alloc (.cells m.cells 66)).alloc (.cells #[.int .i64 m.sym, .int .i64 m.id] 164)).drew.heap.size := HK0.out.lt
    generalize ((w.alloc (.cells m.cells 66)).alloc (.cells #[.int .i64 m.sym, .int .i64 m.id] 164)).drew = W1 at HD0 HM0 HK0 HC0 hHeld hsz ⊢
    refine wpAnyH_take (i := 0) (oi := ⟨some 18, _, _, _, _, _⟩) (v := (.pointer (some ⟨D, 0, none⟩))) rfl (by kernel_rfl) (by kernel_rfl) (by kernel_rfl) (fun _ _ _ h => h) (Or.inl ⟨by rfl, fun w hSw => by (try dsimp only at hSw); go_simp⟩) (by assumption) ?_
    simp only [Act.put, List.setIfInBounds_toArray, List.set_cons_zero, List.set_cons_succ]
    refine wpAnyH_take (i := 1) (oi := ⟨some 19, _, _, _, _, _⟩) (v := (.pointer (some ⟨D, 0, none⟩))) rfl (by kernel_rfl) (by kernel_rfl) (by kernel_rfl) (fun _ _ _ h => h) (Or.inl ⟨by rfl, fun w hSw => by (try dsimp only at hSw); go_simp⟩) (by assumption) ?_
    simp only [Act.put, List.setIfInBounds_toArray, List.set_cons_zero, List.set_cons_succ]
    refine wpAnyH_take (i := 2) (oi := ⟨some 20, _, _, _, _, _⟩) (v := (.pointer (some ⟨D, 0, none⟩))) rfl (by kernel_rfl) (by kernel_rfl) (by kernel_rfl) (fun _ _ _ h => h) (Or.inl ⟨by rfl, fun w hSw => by (try dsimp only at hSw); go_simp⟩) (by assumption) ?_
    simp only [Act.put, List.setIfInBounds_toArray, List.set_cons_zero, List.set_cons_succ]
    refine wpAnyH_take (i := 3) (oi := ⟨some 21, _, _, _, _, _⟩) (v := (.map (some b))) rfl (by kernel_rfl) (by kernel_rfl) (by kernel_rfl) (fun _ _ _ h => h) (Or.inl ⟨by rfl, fun w hSw => by (try dsimp only at hSw); go_simp⟩) (by assumption) ?_
    simp only [Act.put, List.setIfInBounds_toArray, List.set_cons_zero, List.set_cons_succ]
    refine wpAnyH_take (i := 4) (oi := ⟨some 22, _, _, _, _, _⟩) (v := (.agg #[.int .i64 m.sym, .int .i64 m.id])) rfl (by kernel_rfl) (by kernel_rfl) (by kernel_rfl) (fun _ _ _ h => h) (Or.inl ⟨by rfl, fun w hSw => by (try dsimp only at hSw); go_simp⟩) (by assumption) ?_
    simp only [Act.put, List.setIfInBounds_toArray, List.set_cons_zero, List.set_cons_succ]
    refine wpAnyH_take (i := 5) (oi := ⟨some 23, _, _, _, _, _⟩) (v := (.tuple #[.agg #[.int .i64 (0), .int .i64 (0), .int .i64 (0)], .bool false])) rfl (by kernel_rfl) (by kernel_rfl) (by kernel_rfl) (fun _ _ _ h => h) (Or.inl ⟨by rfl, fun w hSw => by (try dsimp only at hSw); go_simp⟩) (by assumption) ?_
    simp only [Act.put, List.setIfInBounds_toArray, List.set_cons_zero, List.set_cons_succ]
    refine wpAnyH_take (i := 6) (oi := ⟨some 17, _, _, _, _, _⟩) (v := (.tuple #[.agg #[.int .i64 (0), .int .i64 (0), .int .i64 (0)], .bool false])) rfl (by kernel_rfl) (by kernel_rfl) (by kernel_rfl) (fun _ _ _ h => h) (Or.inl ⟨by rfl, fun w hSw => by (try dsimp only at hSw); go_simp⟩) (by assumption) ?_
    simp only [Act.put, List.setIfInBounds_toArray, List.set_cons_zero, List.set_cons_succ]
    refine wpAnyH_take (i := 7) (oi := ⟨some 24, _, _, _, _, _⟩) (v := (.agg #[.int .i64 (0), .int .i64 (0), .int .i64 (0)])) rfl (by kernel_rfl) (by kernel_rfl) (by kernel_rfl) (fun _ _ _ h => h) (Or.inl ⟨by rfl, fun w hSw => by (try dsimp only at hSw); go_simp⟩) (by assumption) ?_
    simp only [Act.put, List.setIfInBounds_toArray, List.set_cons_zero, List.set_cons_succ]
    refine wpAnyH_take (i := 8) (oi := ⟨some 25, _, _, _, _, _⟩) (v := (.bool false)) rfl (by kernel_rfl) (by kernel_rfl) (by kernel_rfl) (fun _ _ _ h => h) (Or.inl ⟨by rfl, fun w hSw => by (try dsimp only at hSw); go_simp⟩) (by assumption) ?_
    simp only [Act.put, List.setIfInBounds_toArray, List.set_cons_zero, List.set_cons_succ]
    refine wpAnyH_ready (rs := [9]) (by kernel_rfl) (by simp) ?_
    refine AllReadyH.cons (o := ⟨some 6, _, _, _, _, _⟩) rfl (fun KK hK => ?_) AllReadyH.nil
    go_simp
    change KK _ (W1.alloc (.cells restZ 166))
    have HS : Hid (QS w D b m W1.heap.size (W1.alloc (.cells restZ 166)) L restZ) := Lib.hid ⟨HD0.out.alloc _, HM0.out.old _, HK0.out.old _, Blk.new _ _ _ _ rfl, HC0.out.alloc HC0.out.size _, hD, hb, hsz⟩
    refine hK.out _ _ ⟨HS.out.ds.box.cell 0 rfl, HS.out.kb.cell 0 rfl, HS.out.kb.cell 1 rfl, HL.out _ HS.out.ds.map⟩ (fun hHeld => ?_)
    clear hK; try clear KK
    try simp only [Act.put, List.setIfInBounds_toArray, List.set_cons_zero, List.set_cons_succ]
    refine wpAnyH_ready (rs := [10]) (by kernel_rfl) (by simp) ?_
    refine AllReadyH.cons (o := ⟨none, _, _, _, _, _⟩) rfl (fun KK hK => ?_) AllReadyH.nil
    refine step_store_blk (by rfl) 166 _ _ (by rfl) W1.heap.size (by rfl) restZ #[.int .i64 (0), .int .i64 (0), .int .i64 (0)] 166 HS.out.x (by rfl) rfl (by kernel_rfl) (one_rest ⟨0, 0, 0⟩) ?_
    replace HS := Lib.hid (HS.out.mput #[.int .i64 (0), .int .i64 (0), .int .i64 (0)] rfl)
    refine hK.out _ _ ⟨HS.out.ds.box.cell 0 rfl, HS.out.kb.cell 0 rfl, HS.out.kb.cell 1 rfl, HL.out _ HS.out.ds.map⟩ (fun hHeld => ?_)
    clear hK; try clear KK
    refine wpAnyH_take (i := 11) (oi := ⟨some 7, _, _, _, _, _⟩) (v := (.bool false)) rfl (by kernel_rfl) (by kernel_rfl) (by kernel_rfl) (fun _ _ _ h => h) (Or.inl ⟨by rfl, fun w hSw => by (try dsimp only at hSw); go_simp⟩) (by assumption) ?_
    simp only [Act.put, List.setIfInBounds_toArray, List.set_cons_zero, List.set_cons_succ]
    refine wpAnyH_done (by kernel_rfl) ?_ _
    generalize hW2 : World.setCells (W1.alloc (.cells restZ 166)) W1.heap.size 0 #[.int .i64 (0), .int .i64 (0), .int .i64 (0)].toList = W2 at HS hHeld ⊢
    clear hW2 hHeld HD0 HM0 HK0 HC0
    generalize W1.heap.size = xb at HS hsz ⊢
    have m0 : W2.cell? ⟨w.heap.size, 0, none⟩ = some (.int .i64 m.kind) := HS.out.mb.cell 0 rfl
    have m1 : W2.cell? ⟨w.heap.size, 1, none⟩ = some (.int .i64 m.sym) := HS.out.mb.cell 1 rfl
    have m5 : W2.cell? ⟨w.heap.size, 5, none⟩ = some (.int .i64 m.wth) := HS.out.mb.cell 5 rfl
    have m6 : W2.cell? ⟨w.heap.size, 6, none⟩ = some (.int .i64 m.price) := HS.out.mb.cell 6 rfl
    have m7 : W2.cell? ⟨w.heap.size, 7, none⟩ = some (.int .i64 m.qty) := HS.out.mb.cell 7 rfl
    have m8 : W2.cell? ⟨w.heap.size, 8, none⟩ = some (.int .i64 m.code) := HS.out.mb.cell 8 rfl
    have k0 : W2.cell? ⟨w.heap.size + 1, 0, none⟩ = some (.int .i64 m.sym) := HS.out.kb.cell 0 rfl
    have k1 : W2.cell? ⟨w.heap.size + 1, 1, none⟩ = some (.int .i64 m.id) := HS.out.kb.cell 1 rfl
    go_wp2_with fail
    go_ret
    exact ⟨by (show Ending.returned (.bool false) = _; rw [HE.out]), by rw [HE.out]; exact HS.out.ds, HS.out.chg⟩
  | some x =>
    have HD0 := Lib.hid ((h.alloc (.cells m.cells 66)).alloc (.cells #[.int .i64 m.sym, .int .i64 m.id] 164))
    have HM0 := Lib.hid ((Blk.new w m.cells 66 w.heap.size rfl).old (.cells #[.int .i64 m.sym, .int .i64 m.id] 164))
    have HK0 := Lib.hid (Blk.new (w.alloc (.cells m.cells 66)) #[.int .i64 m.sym, .int .i64 m.id] 164 (w.heap.size + 1) (by simp))
    have HC0 := Lib.hid (show Chg w.heap.size b w ((w.alloc (.cells m.cells 66)).alloc (.cells #[.int .i64 m.sym, .int .i64 m.id] 164)) from ((Chg.refl _ _ _).alloc (Nat.le_refl _) _).alloc (by simp) _)
    have hD := h.box.lt
    have hb := h.map.lt
    have m1 : (w.alloc (.cells m.cells 66)).cell? ⟨w.heap.size, 1, none⟩ = some (.int .i64 m.sym) := (Blk.new w m.cells 66 w.heap.size rfl).cell 1 rfl
    have m4 : (w.alloc (.cells m.cells 66)).cell? ⟨w.heap.size, 4, none⟩ = some (.int .i64 m.id) := (Blk.new w m.cells 66 w.heap.size rfl).cell 4 rfl
    have HL := Lib.hid (fun W (hm : MapIs W b ke ve L) => show (Instr.lookup 160 (.map (some b)) (.agg #[.int .i64 m.sym, .int .i64 m.id]) true).run Try.prog W = .ok (.tuple #[.agg #[.int .i64 (x.side), .int .i64 (x.price), .int .i64 (x.qty)], .bool true]) W by have := look_at hm m.sym m.id; rw [hk] at this; exact this)
    have HK := Lib.hid hk
    clear h hk
    go_enter Try.func37, Try.ntmps37
    go_upto_region 4 with fail
    clear m1 m4
    change Code.wp _ _ _ _ ((w.alloc (.cells m.cells 66)).alloc (.cells #[.int .i64 m.sym, .int .i64 m.id] 164))
    refine wp_region_held_drew (S := (fun w' => w'.cell? ⟨D, 0, none⟩ = some (.map (some b)) ∧ w'.cell? ⟨w.heap.size + 1, 0, none⟩ = some (.int .i64 m.sym) ∧ w'.cell? ⟨w.heap.size + 1, 1, none⟩ = some (.int .i64 m.id) ∧ (Instr.lookup 160 (.map (some b)) (.agg #[.int .i64 m.sym, .int .i64 m.id]) true).run Try.prog w' = .ok (.tuple #[.agg #[.int .i64 (x.side), .int .i64 (x.price), .int .i64 (x.qty)], .bool true]) w')) (by kernel_rfl) ⟨HD0.out.box.cell 0 rfl, HK0.out.cell 0 rfl, HK0.out.cell 1 rfl, HL.out _ HD0.out.map.drew⟩ (fun hHeld => ?_)
    replace HD0 := Lib.hid HD0.out.drew
    replace HM0 := Lib.hid HM0.out.drew
    replace HK0 := Lib.hid HK0.out.drew
    replace HC0 := Lib.hid HC0.out.drew
    have hsz : w.heap.size + 1 < ((w.alloc (.cells m.cells 66)).alloc (.cells #[.int .i64 m.sym, .int .i64 m.id] 164)).drew.heap.size := HK0.out.lt
    generalize ((w.alloc (.cells m.cells 66)).alloc (.cells #[.int .i64 m.sym, .int .i64 m.id] 164)).drew = W1 at HD0 HM0 HK0 HC0 hHeld hsz ⊢
    refine wpAnyH_take (i := 0) (oi := ⟨some 18, _, _, _, _, _⟩) (v := (.pointer (some ⟨D, 0, none⟩))) rfl (by kernel_rfl) (by kernel_rfl) (by kernel_rfl) (fun _ _ _ h => h) (Or.inl ⟨by rfl, fun w hSw => by (try dsimp only at hSw); go_simp⟩) (by assumption) ?_
    simp only [Act.put, List.setIfInBounds_toArray, List.set_cons_zero, List.set_cons_succ]
    refine wpAnyH_take (i := 1) (oi := ⟨some 19, _, _, _, _, _⟩) (v := (.pointer (some ⟨D, 0, none⟩))) rfl (by kernel_rfl) (by kernel_rfl) (by kernel_rfl) (fun _ _ _ h => h) (Or.inl ⟨by rfl, fun w hSw => by (try dsimp only at hSw); go_simp⟩) (by assumption) ?_
    simp only [Act.put, List.setIfInBounds_toArray, List.set_cons_zero, List.set_cons_succ]
    refine wpAnyH_take (i := 2) (oi := ⟨some 20, _, _, _, _, _⟩) (v := (.pointer (some ⟨D, 0, none⟩))) rfl (by kernel_rfl) (by kernel_rfl) (by kernel_rfl) (fun _ _ _ h => h) (Or.inl ⟨by rfl, fun w hSw => by (try dsimp only at hSw); go_simp⟩) (by assumption) ?_
    simp only [Act.put, List.setIfInBounds_toArray, List.set_cons_zero, List.set_cons_succ]
    refine wpAnyH_take (i := 3) (oi := ⟨some 21, _, _, _, _, _⟩) (v := (.map (some b))) rfl (by kernel_rfl) (by kernel_rfl) (by kernel_rfl) (fun _ _ _ h => h) (Or.inl ⟨by rfl, fun w hSw => by (try dsimp only at hSw); go_simp⟩) (by assumption) ?_
    simp only [Act.put, List.setIfInBounds_toArray, List.set_cons_zero, List.set_cons_succ]
    refine wpAnyH_take (i := 4) (oi := ⟨some 22, _, _, _, _, _⟩) (v := (.agg #[.int .i64 m.sym, .int .i64 m.id])) rfl (by kernel_rfl) (by kernel_rfl) (by kernel_rfl) (fun _ _ _ h => h) (Or.inl ⟨by rfl, fun w hSw => by (try dsimp only at hSw); go_simp⟩) (by assumption) ?_
    simp only [Act.put, List.setIfInBounds_toArray, List.set_cons_zero, List.set_cons_succ]
    refine wpAnyH_take (i := 5) (oi := ⟨some 23, _, _, _, _, _⟩) (v := (.tuple #[.agg #[.int .i64 (x.side), .int .i64 (x.price), .int .i64 (x.qty)], .bool true])) rfl (by kernel_rfl) (by kernel_rfl) (by kernel_rfl) (fun _ _ _ h => h) (Or.inl ⟨by rfl, fun w hSw => by (try dsimp only at hSw); go_simp⟩) (by assumption) ?_
    simp only [Act.put, List.setIfInBounds_toArray, List.set_cons_zero, List.set_cons_succ]
    refine wpAnyH_take (i := 6) (oi := ⟨some 17, _, _, _, _, _⟩) (v := (.tuple #[.agg #[.int .i64 (x.side), .int .i64 (x.price), .int .i64 (x.qty)], .bool true])) rfl (by kernel_rfl) (by kernel_rfl) (by kernel_rfl) (fun _ _ _ h => h) (Or.inl ⟨by rfl, fun w hSw => by (try dsimp only at hSw); go_simp⟩) (by assumption) ?_
    simp only [Act.put, List.setIfInBounds_toArray, List.set_cons_zero, List.set_cons_succ]
    refine wpAnyH_take (i := 7) (oi := ⟨some 24, _, _, _, _, _⟩) (v := (.agg #[.int .i64 (x.side), .int .i64 (x.price), .int .i64 (x.qty)])) rfl (by kernel_rfl) (by kernel_rfl) (by kernel_rfl) (fun _ _ _ h => h) (Or.inl ⟨by rfl, fun w hSw => by (try dsimp only at hSw); go_simp⟩) (by assumption) ?_
    simp only [Act.put, List.setIfInBounds_toArray, List.set_cons_zero, List.set_cons_succ]
    refine wpAnyH_take (i := 8) (oi := ⟨some 25, _, _, _, _, _⟩) (v := (.bool true)) rfl (by kernel_rfl) (by kernel_rfl) (by kernel_rfl) (fun _ _ _ h => h) (Or.inl ⟨by rfl, fun w hSw => by (try dsimp only at hSw); go_simp⟩) (by assumption) ?_
    simp only [Act.put, List.setIfInBounds_toArray, List.set_cons_zero, List.set_cons_succ]
    refine wpAnyH_ready (rs := [9]) (by kernel_rfl) (by simp) ?_
    refine AllReadyH.cons (o := ⟨some 6, _, _, _, _, _⟩) rfl (fun KK hK => ?_) AllReadyH.nil
    go_simp
    change KK _ (W1.alloc (.cells restZ 166))
    have HS : Hid (QS w D b m W1.heap.size (W1.alloc (.cells restZ 166)) L restZ) := Lib.hid ⟨HD0.out.alloc _, HM0.out.old _, HK0.out.old _, Blk.new _ _ _ _ rfl, HC0.out.alloc HC0.out.size _, hD, hb, hsz⟩
    refine hK.out _ _ ⟨HS.out.ds.box.cell 0 rfl, HS.out.kb.cell 0 rfl, HS.out.kb.cell 1 rfl, HL.out _ HS.out.ds.map⟩ (fun hHeld => ?_)
    clear hK; try clear KK
    try simp only [Act.put, List.setIfInBounds_toArray, List.set_cons_zero, List.set_cons_succ]
    refine wpAnyH_ready (rs := [10]) (by kernel_rfl) (by simp) ?_
    refine AllReadyH.cons (o := ⟨none, _, _, _, _, _⟩) rfl (fun KK hK => ?_) AllReadyH.nil
    refine step_store_blk (by rfl) 166 _ _ (by rfl) W1.heap.size (by rfl) restZ #[.int .i64 (x.side), .int .i64 (x.price), .int .i64 (x.qty)] 166 HS.out.x (by rfl) rfl (by kernel_rfl) (one_rest ⟨x.side, x.price, x.qty⟩) ?_
    replace HS := Lib.hid (HS.out.mput #[.int .i64 (x.side), .int .i64 (x.price), .int .i64 (x.qty)] rfl)
    refine hK.out _ _ ⟨HS.out.ds.box.cell 0 rfl, HS.out.kb.cell 0 rfl, HS.out.kb.cell 1 rfl, HL.out _ HS.out.ds.map⟩ (fun hHeld => ?_)
    clear hK; try clear KK
    refine wpAnyH_take (i := 11) (oi := ⟨some 7, _, _, _, _, _⟩) (v := (.bool true)) rfl (by kernel_rfl) (by kernel_rfl) (by kernel_rfl) (fun _ _ _ h => h) (Or.inl ⟨by rfl, fun w hSw => by (try dsimp only at hSw); go_simp⟩) (by assumption) ?_
    simp only [Act.put, List.setIfInBounds_toArray, List.set_cons_zero, List.set_cons_succ]
    refine wpAnyH_done (by kernel_rfl) ?_ _
    generalize hW2 : World.setCells (W1.alloc (.cells restZ 166)) W1.heap.size 0 #[.int .i64 (x.side), .int .i64 (x.price), .int .i64 (x.qty)].toList = W2 at HS hHeld ⊢
    clear hW2 hHeld HD0 HM0 HK0 HC0
    generalize W1.heap.size = xb at HS hsz ⊢
    have m0 : W2.cell? ⟨w.heap.size, 0, none⟩ = some (.int .i64 m.kind) := HS.out.mb.cell 0 rfl
    have m1 : W2.cell? ⟨w.heap.size, 1, none⟩ = some (.int .i64 m.sym) := HS.out.mb.cell 1 rfl
    have m5 : W2.cell? ⟨w.heap.size, 5, none⟩ = some (.int .i64 m.wth) := HS.out.mb.cell 5 rfl
    have m6 : W2.cell? ⟨w.heap.size, 6, none⟩ = some (.int .i64 m.price) := HS.out.mb.cell 6 rfl
    have m7 : W2.cell? ⟨w.heap.size, 7, none⟩ = some (.int .i64 m.qty) := HS.out.mb.cell 7 rfl
    have m8 : W2.cell? ⟨w.heap.size, 8, none⟩ = some (.int .i64 m.code) := HS.out.mb.cell 8 rfl
    have k0 : W2.cell? ⟨w.heap.size + 1, 0, none⟩ = some (.int .i64 m.sym) := HS.out.kb.cell 0 rfl
    have k1 : W2.cell? ⟨w.heap.size + 1, 1, none⟩ = some (.int .i64 m.id) := HS.out.kb.cell 1 rfl
    go_wp2_with fail
    go_ret
    exact ⟨by (show Ending.returned (.bool false) = _; rw [HE.out]), by rw [HE.out]; exact HS.out.ds, HS.out.chg⟩
end Go.Proofs.Ytogjgpiddjmpiaa.Depth
