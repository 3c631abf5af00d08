/- What a watch writes: a symbol's row; a phase that is told. -/
import Derived.Test.YtggkhnmhhifniaaWatchChk
namespace Go.Proofs.Ytggkhnmhhifniaa.Watch
open Go.RowKit Go.Proofs.Ytggkhnmhhifniaa.Kit Go.Proofs.Ytggkhnmhhifniaa.Blk Go.Proofs.Ytggkhnmhhifniaa.Symbol
attribute [local go_sem ↓] Go.wp_at_zero Go.wp_at_succ

theorem row_size (s : Sym) (k : Kn) : (rowCells s k).size = 26 := rfl

section
variable {w w' : World} {P L cap : Nat} {sy : List Sym} {ks : List Kn} {seq tick : Int}
theorem PW.store (h : PW w P L cap sy ks seq tick) (i : Nat) (hi : i < ks.length) (j : Nat) (hj : j < 26) (v : Value) (k' : Kn)
    (hk : rowCells (sy.getD i noSym) k' = (rowCells (sy.getD i noSym) (ks.getD i Kn.zero)).setIfInBounds j v) : PW (w.setCell ⟨L, i * 26 + j, none⟩ v) P L cap sy (ks.set i k') seq tick := by
  refine ⟨?_, ?_, ?_, ?_, h.ne, ?_, ?_⟩
  · rw [List.length_set]; exact h.head.apart _ _ (fun e => h.ne e.symm)
  · intro i' hi' j' v' hv'
    rw [List.length_set] at hi'
    have hj' : j' < 26 := by
      have := (Array.getElem?_eq_some_iff.1 hv').1
      rw [row_size] at this; exact this
    by_cases he : i' = i
    · subst he
      have e1 : (ks.set i' k').getD i' Kn.zero = k' := by simp [List.getD, hi]
      rw [e1, hk] at hv'
      by_cases hjj : j = j'
      · subst hjj
        have hs : (rowCells (sy.getD i' noSym) (ks.getD i' Kn.zero)).size = 26 := rfl
        have e2 : v = v' := by
          rw [Array.getElem?_setIfInBounds] at hv'
          rw [if_pos rfl, if_pos (by omega)] at hv'
          exact Option.some.inj hv'
        subst e2
        exact World.cell?_setCell_same _ _ _ (h.row i' hi j _ (Array.getElem?_eq_getElem (by omega)))
      · rw [Array.getElem?_setIfInBounds, if_neg hjj] at hv'
        rw [World.cell?_setCell_other (h := show (⟨L, i' * 26 + j, none⟩ : Addr) ≠ ⟨L, i' * 26 + j', none⟩ by simp)]
        exact h.row i' hi j' v' hv'
    · have e1 : (ks.set i k').getD i' Kn.zero = ks.getD i' Kn.zero := by simp [List.getD, Ne.symm he]
      rw [e1] at hv'
      rw [World.cell?_setCell_other (h := show (⟨L, i * 26 + j, none⟩ : Addr) ≠ ⟨L, i' * 26 + j', none⟩ from fun e => by simp only [Addr.mk.injEq] at e; omega)]
      exact h.row i' hi' j' v' hv'
  · intro j'
    rw [World.frozen?_setCell]; exact h.free j'
  · rw [List.length_set]; exact h.len
  · simpa [World.setCell] using h.lt
  · rw [List.length_set]; exact h.few
end

/-- The longest pause of a symbol. -/
def boundF (s : Sym) : Int := if symFault s = 0 then wrap64 (s.pause + wrap64 (s.ext * wrap64 (s.maxExt + 1))) else 0

theorem bound_any (s : Sym) (w : World) : Calls Try.prog 69 #[.agg s.cells] w fun e w' => e = .returned (.int .i64 (boundF s)) ∧ Below w.heap.size w w' := by
  have HB := Lib.hid (box_new w _ s rfl)
  have hba := Lib.hid (show Below w.heap.size w (w.alloc (.cells s.cells 73)) from (Below.refl _ _).alloc (Nat.le_refl _) _)
  have hbz : (w.alloc (.cells s.cells 73)).heap.size = w.heap.size + 1 := by simp
  unfold Sym.cells at *
  go_enter Try.func69, Try.ntmps69
  go_wp2_with fail
  generalize w.alloc (Obj.cells #[.int .i64 s.grid, .int .i64 s.ref, .int .i64 s.static, .int .i64 s.dynamic, .int .i64 s.window, .int .i64 s.move, .int .i64 s.limit, .int .i64 s.pause, .int .i64 s.ext, .int .i64 s.maxExt, .int .i64 s.collar, .int .i64 s.widen, .int .i64 s.self, .int .i64 s.slots, .int .i64 s.levels, .int .i64 s.short] 73) = W at HB hba hbz ⊢
  have hc := fun j v hv => HB.out j v hv
  refine (symbol_any s _).mono ?_
  rintro e w1 ⟨rfl, hb1⟩
  have c7 : w1.cell? ⟨w.heap.size, 7, none⟩ = some (.int .i64 s.pause) := by rw [hb1.cell (p := ⟨w.heap.size, _, none⟩) (by show w.heap.size < W.heap.size; omega)]; exact hc 7 _ rfl
  have c8 : w1.cell? ⟨w.heap.size, 8, none⟩ = some (.int .i64 s.ext) := by rw [hb1.cell (p := ⟨w.heap.size, _, none⟩) (by show w.heap.size < W.heap.size; omega)]; exact hc 8 _ rfl
  have c9 : w1.cell? ⟨w.heap.size, 9, none⟩ = some (.int .i64 s.maxExt) := by rw [hb1.cell (p := ⟨w.heap.size, _, none⟩) (by show w.heap.size < W.heap.size; omega)]; exact hc 9 _ rfl
  have hbf := hba.out.trans (hb1.mono (by omega))
  clear hc hb1 hbz hba
  by_cases h : symFault s = 0
  · have h0 : (symFault s != 0) = false := by simp [h]
    have HS := Lib.hid (show boundF s = wrap64 (s.pause + wrap64 (s.ext * wrap64 (s.maxExt + 1))) by simp [boundF, h])
    clear h
    go_wp2
    go_ret
    exact ⟨ret_int HS.out.symm, hbf⟩
  · have h0 : (symFault s != 0) = true := by simp [h]
    have HS := Lib.hid (show boundF s = 0 by simp [boundF, h])
    clear h
    go_wp2
    go_ret
    exact ⟨ret_int HS.out.symm, hbf⟩

/-- A row's symbol, and the message's tick, as a drawn region meets them. -/
def SymT (w' : World) (L o M : Nat) (s : Sym) (t : Int) : Prop := w'.cell? ⟨L, o, none⟩ = some (.int .i64 s.grid) ∧ w'.cell? ⟨L, o + 1, none⟩ = some (.int .i64 s.ref) ∧ w'.cell? ⟨L, o + 2, none⟩ = some (.int .i64 s.static) ∧ w'.cell? ⟨L, o + 3, none⟩ = some (.int .i64 s.dynamic) ∧ w'.cell? ⟨L, o + 4, none⟩ = some (.int .i64 s.window) ∧ w'.cell? ⟨L, o + 5, none⟩ = some (.int .i64 s.move) ∧ w'.cell? ⟨L, o + 6, none⟩ = some (.int .i64 s.limit) ∧ w'.cell? ⟨L, o + 7, none⟩ = some (.int .i64 s.pause) ∧ w'.cell? ⟨L, o + 8, none⟩ = some (.int .i64 s.ext) ∧ w'.cell? ⟨L, o + 9, none⟩ = some (.int .i64 s.maxExt) ∧ w'.cell? ⟨L, o + 10, none⟩ = some (.int .i64 s.collar) ∧ w'.cell? ⟨L, o + 11, none⟩ = some (.int .i64 s.widen) ∧ w'.cell? ⟨L, o + 12, none⟩ = some (.int .i64 s.self) ∧ w'.cell? ⟨L, o + 13, none⟩ = some (.int .i64 s.slots) ∧ w'.cell? ⟨L, o + 14, none⟩ = some (.int .i64 s.levels) ∧ w'.cell? ⟨L, o + 15, none⟩ = some (.int .i64 s.short) ∧ w'.cell? ⟨M, 3, none⟩ = some (.int .i64 t)
theorem PW.symT {w : World} {P L cap M : Nat} {sy : List Sym} {ks : List Kn} {seq tick : Int} {m : Msg} (h : PW w P L cap sy ks seq tick) (i : Nat) (hi : i < ks.length) (hm : Blk w M m.cells 40) :
    SymT w L (i * 26) M (sy.getD i noSym) m.tick := ⟨h.row i hi 0 _ rfl, h.row i hi 1 _ rfl, h.row i hi 2 _ rfl, h.row i hi 3 _ rfl, h.row i hi 4 _ rfl, h.row i hi 5 _ rfl, h.row i hi 6 _ rfl, h.row i hi 7 _ rfl, h.row i hi 8 _ rfl, h.row i hi 9 _ rfl, h.row i hi 10 _ rfl, h.row i hi 11 _ rfl, h.row i hi 12 _ rfl, h.row i hi 13 _ rfl, h.row i hi 14 _ rfl, h.row i hi 15 _ rfl, hm.cell 3 rfl⟩

/-- What is known behind a phase that is told. -/
def statusF (s : Sym) (k : Kn) (m : Msg) : Kn :=
  if m.code = 3 then { k with phase := m.code, deadline := IntKind.i64.wrap (m.tick + boundF s) } else if m.code = 4 ∨ m.code = 5 then { k with phase := m.code } else { k with phase := m.code, deadline := 0 }

set_option maxHeartbeats 4000000 in
theorem status_any (P L cap : Nat) (sy : List Sym) (ks : List Kn) (seq tick : Int) (m : Msg) (i : Nat) (hi : i < ks.length) (w : World) (h : PW w P L cap sy ks seq tick) :
    Calls Try.prog 33 #[.pointer (some ⟨L, i * 26, none⟩), .agg m.cells] w fun e w' =>
    e = .returned (.tuple #[]) ∧ PW w' P L cap sy (ks.set i (statusF (sy.getD i noSym) (ks.getD i Kn.zero) m)) seq tick ∧ Chg w.heap.size L w w' := by
  have HP := Lib.hid (h.below ((Below.refl _ _).alloc (Nat.le_refl _) (.cells m.cells 40)))
  have HM := Lib.hid (Blk.new w m.cells 40 w.heap.size rfl)
  have HC := Lib.hid (show Chg w.heap.size L w (w.alloc (.cells m.cells 40)) from (Chg.refl _ _ _).alloc (Nat.le_refl _) _)
  have hlt := h.lt
  clear h
  generalize hkk : ks.set i (statusF (sy.getD i noSym) (ks.getD i Kn.zero) m) = kk
  have HKK := Lib.hid hkk
  clear hkk
  by_cases h3 : m.code = 3
  · have b3 : (m.code == 3) = true := by simp [h3]
    have HS := Lib.hid (show statusF (sy.getD i noSym) (ks.getD i Kn.zero) m = { ks.getD i Kn.zero with phase := m.code, deadline := IntKind.i64.wrap (m.tick + boundF (sy.getD i noSym)) } by simp [statusF, h3])
    clear h3
    go_enter Try.func33, Try.ntmps33
    go_upto_region 1 with fail
    generalize w.alloc (.cells m.cells 40) = W at HP HM HC ⊢
    have m8 : W.cell? ⟨w.heap.size, 8, none⟩ = some (.int .i64 m.code) := HM.out.cell 8 rfl
    have k16 : W.cell? ⟨L, i * 26 + 16, none⟩ = some (.int .i64 (ks.getD i Kn.zero).phase) := HP.out.row i hi 16 _ rfl
    have f16 : W.frozen? ⟨L, i * 26 + 16, none⟩ = false := HP.out.free _
    go_upto_region 5 with fail
    have hp2 : PW (W.setCell ⟨L, i * 26 + 16, none⟩ (.int .i64 m.code)) P L cap sy (ks.set i { ks.getD i Kn.zero with phase := m.code }) seq tick := HP.out.store i hi 16 (by decide) _ _ rfl
    have hm2 : Blk (W.setCell ⟨L, i * 26 + 16, none⟩ (.int .i64 m.code)) w.heap.size m.cells 40 := HM.out.apart _ _ (by show L ≠ w.heap.size; omega)
    have hc2 : Chg w.heap.size L w (W.setCell ⟨L, i * 26 + 16, none⟩ (.int .i64 m.code)) := HC.out.setCell _ _ (Or.inl rfl)
    have hi2 : i < (ks.set i { ks.getD i Kn.zero with phase := m.code }).length := by rw [List.length_set]; exact hi
    have he2 : (ks.set i { ks.getD i Kn.zero with phase := m.code }).getD i Kn.zero = { ks.getD i Kn.zero with phase := m.code } := by simp [List.getD, hi]
    generalize W.setCell ⟨L, i * 26 + 16, none⟩ (.int .i64 m.code) = W2 at hp2 hm2 hc2 ⊢
    clear k16 f16 m8 HP HM HC
    have HP2 := Lib.hid hp2
    have HM2 := Lib.hid hm2
    have HC2 := Lib.hid hc2
    have HE2 := Lib.hid he2
    have HK0 := Lib.hid ((hp2.below (Below.refl _ _).drew).symT i hi2 hm2.drew)
    clear hp2 hm2 hc2 he2
    have hl1 : w.heap.size ≤ W2.drew.heap.size := Nat.le_of_lt HM2.out.lt
    have hdrw : ∀ {w3 : World} {ks2 : List Kn}, PW W2 P L cap sy ks2 seq tick → Below W2.drew.heap.size W2.drew w3 → PW w3 P L cap sy ks2 seq tick := fun h hb => (h.below (Below.refl _ _).drew).below hb
    unfold SymT at HK0
    generalize hsg : sy.getD i noSym = s at HK0 HS
    have HSG := Lib.hid hsg
    clear hsg
    go_region_held3 (fun w' => w'.cell? ⟨L, i * 26, none⟩ = some (.int .i64 s.grid) ∧ w'.cell? ⟨L, i * 26 + 1, none⟩ = some (.int .i64 s.ref) ∧ w'.cell? ⟨L, i * 26 + 2, none⟩ = some (.int .i64 s.static) ∧ w'.cell? ⟨L, i * 26 + 3, none⟩ = some (.int .i64 s.dynamic) ∧ w'.cell? ⟨L, i * 26 + 4, none⟩ = some (.int .i64 s.window) ∧ w'.cell? ⟨L, i * 26 + 5, none⟩ = some (.int .i64 s.move) ∧ w'.cell? ⟨L, i * 26 + 6, none⟩ = some (.int .i64 s.limit) ∧ w'.cell? ⟨L, i * 26 + 7, none⟩ = some (.int .i64 s.pause) ∧ w'.cell? ⟨L, i * 26 + 8, none⟩ = some (.int .i64 s.ext) ∧ w'.cell? ⟨L, i * 26 + 9, none⟩ = some (.int .i64 s.maxExt) ∧ w'.cell? ⟨L, i * 26 + 10, none⟩ = some (.int .i64 s.collar) ∧ w'.cell? ⟨L, i * 26 + 11, none⟩ = some (.int .i64 s.widen) ∧ w'.cell? ⟨L, i * 26 + 12, none⟩ = some (.int .i64 s.self) ∧ w'.cell? ⟨L, i * 26 + 13, none⟩ = some (.int .i64 s.slots) ∧ w'.cell? ⟨L, i * 26 + 14, none⟩ = some (.int .i64 s.levels) ∧ w'.cell? ⟨L, i * 26 + 15, none⟩ = some (.int .i64 s.short) ∧ w'.cell? ⟨w.heap.size, 3, none⟩ = some (.int .i64 m.tick))
      (first | exact HK0.out | exact HK1.out | exact HK2.out)
      (first | (go_at_call 69; refine (bound_any s _).mono ?_; rintro e w3 ⟨rfl, hb3⟩; have HP3 := Lib.hid (hdrw HP2.out hb3); have HM3 := Lib.hid (HM2.out.drew.below hb3 HM2.out.lt); have HK1 := Lib.hid (by rw [← HSG.out]; exact PW.symT HP3.out i hi2 HM3.out : SymT w3 L (i * 26) w.heap.size s m.tick); unfold SymT at HK1; have HC3 := Lib.hid (HC2.out.step ((Below.refl _ _).drew.trans (hb3.mono hl1))); clear hb3; have cc := HP3.out.row i hi2 21 _ rfl; have ff := HP3.out.free (i * 26 + 21); have HP4 := Lib.hid (HP3.out.store i hi2 21 (by decide) (.int .i64 (IntKind.i64.wrap (m.tick + boundF s))) { ks.getD i Kn.zero with phase := m.code, deadline := IntKind.i64.wrap (m.tick + boundF s) } (by rw [HE2.out]; rfl)); have HM4 := Lib.hid (HM3.out.apart ⟨L, i * 26 + 21, none⟩ (.int .i64 (IntKind.i64.wrap (m.tick + boundF s))) (by show L ≠ w.heap.size; omega)); have HK2 := Lib.hid (by rw [← HSG.out]; exact PW.symT HP4.out i (by rw [List.length_set]; exact hi2) HM4.out : SymT _ L (i * 26) w.heap.size s m.tick); unfold SymT at HK2; have HC4 := Lib.hid (HC3.out.setCell ⟨L, i * 26 + 21, none⟩ (.int .i64 (IntKind.i64.wrap (m.tick + boundF s))) (Or.inl rfl))))
    go_wp2_with fail
    go_end0
    refine ⟨rfl, ?_, HC4.out⟩
    have h5 := HP4.out
    rw [List.set_set] at h5
    rw [← HKK.out, HSG.out, HS.out]
    exact h5
  have b3 : (m.code == 3) = false := by simp [h3]
  by_cases h45 : m.code = 4 ∨ m.code = 5
  · have HS := Lib.hid (show statusF (sy.getD i noSym) (ks.getD i Kn.zero) m = { ks.getD i Kn.zero with phase := m.code } by simp [statusF, h3, h45])
    have b45 : (m.code == 4) = true ∨ ((m.code == 4) = false ∧ (m.code == 5) = true) := by rcases h45 with h | h <;> simp [h]
    clear h3 h45
    rcases b45 with b4 | ⟨b4, b5⟩
    all_goals
      go_enter Try.func33, Try.ntmps33
      go_upto_region 1 with fail
      generalize w.alloc (.cells m.cells 40) = W at HP HM HC ⊢
      have m8 : W.cell? ⟨w.heap.size, 8, none⟩ = some (.int .i64 m.code) := HM.out.cell 8 rfl
      have k16 : W.cell? ⟨L, i * 26 + 16, none⟩ = some (.int .i64 (ks.getD i Kn.zero).phase) := HP.out.row i hi 16 _ rfl
      have f16 : W.frozen? ⟨L, i * 26 + 16, none⟩ = false := HP.out.free _
      have hne : w.heap.size ≠ L := by omega
      go_wp2_with fail
      go_end0
      refine ⟨rfl, ?_, HC.out.setCell _ _ (Or.inl rfl)⟩
      rw [← HKK.out, HS.out]
      exact HP.out.store i hi 16 (by decide) _ _ rfl
  · have HS := Lib.hid (show statusF (sy.getD i noSym) (ks.getD i Kn.zero) m = { ks.getD i Kn.zero with phase := m.code, deadline := 0 } by simp [statusF, h3, h45])
    have b4 : (m.code == 4) = false := by have : ¬ m.code = 4 := fun h => h45 (Or.inl h); simp [this]
    have b5 : (m.code == 5) = false := by have : ¬ m.code = 5 := fun h => h45 (Or.inr h); simp [this]
    clear h3 h45
    go_enter Try.func33, Try.ntmps33
    go_upto_region 1 with fail
    generalize w.alloc (.cells m.cells 40) = W at HP HM HC ⊢
    have m8 : W.cell? ⟨w.heap.size, 8, none⟩ = some (.int .i64 m.code) := HM.out.cell 8 rfl
    have k16 : W.cell? ⟨L, i * 26 + 16, none⟩ = some (.int .i64 (ks.getD i Kn.zero).phase) := HP.out.row i hi 16 _ rfl
    have f16 : W.frozen? ⟨L, i * 26 + 16, none⟩ = false := HP.out.free _
    go_upto_region 2 with fail
    have hp2 : PW (W.setCell ⟨L, i * 26 + 16, none⟩ (.int .i64 m.code)) P L cap sy (ks.set i { ks.getD i Kn.zero with phase := m.code }) seq tick := HP.out.store i hi 16 (by decide) _ _ rfl
    have hm2 : Blk (W.setCell ⟨L, i * 26 + 16, none⟩ (.int .i64 m.code)) w.heap.size m.cells 40 := HM.out.apart _ _ (by show L ≠ w.heap.size; omega)
    have hc2 : Chg w.heap.size L w (W.setCell ⟨L, i * 26 + 16, none⟩ (.int .i64 m.code)) := HC.out.setCell _ _ (Or.inl rfl)
    have hi2 : i < (ks.set i { ks.getD i Kn.zero with phase := m.code }).length := by rw [List.length_set]; exact hi
    have he2 : (ks.set i { ks.getD i Kn.zero with phase := m.code }).getD i Kn.zero = { ks.getD i Kn.zero with phase := m.code } := by simp [List.getD, hi]
    generalize W.setCell ⟨L, i * 26 + 16, none⟩ (.int .i64 m.code) = W2 at hp2 hm2 hc2 ⊢
    clear k16 f16 m8 HP HM HC
    have m8 : W2.cell? ⟨w.heap.size, 8, none⟩ = some (.int .i64 m.code) := hm2.cell 8 rfl
    have k21 : W2.cell? ⟨L, i * 26 + 21, none⟩ = some (.int .i64 (ks.getD i Kn.zero).deadline) := by have h5 := hp2.row i hi2 21 _ rfl; rw [he2] at h5; exact h5
    have f21 : W2.frozen? ⟨L, i * 26 + 21, none⟩ = false := hp2.free _
    have HP2 := Lib.hid hp2
    have HC2 := Lib.hid hc2
    have HE2 := Lib.hid he2
    clear hp2 hm2 hc2 he2
    go_wp2_with fail
    go_end0
    refine ⟨rfl, ?_, HC2.out.setCell _ _ (Or.inl rfl)⟩
    rw [← HKK.out, HS.out]
    have h5 := HP2.out.store i hi2 21 (by decide) (.int .i64 0) { ks.getD i Kn.zero with phase := m.code, deadline := 0 } (by rw [HE2.out]; rfl)
    rw [List.set_set] at h5
    exact h5
end Go.Proofs.Ytggkhnmhhifniaa.Watch
