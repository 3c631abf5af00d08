/- config.Check: the fault of a configuration, and where. -/
import Derived.Test.YtggkhnmhhifniaaSym
import Derived.Test.YtggkhnmhhifniaaTable
namespace Go.Proofs.Ytggkhnmhhifniaa.Check
open Go.RowKit Go.Proofs.Ytggkhnmhhifniaa.Kit Go.Proofs.Ytggkhnmhhifniaa.All Go.Proofs.Ytggkhnmhhifniaa.Symbol Go.Proofs.Ytggkhnmhhifniaa.Table

structure Cfg where
  syms : List Sym
  tab : List (Int × Int)
  index : Int
  f0 : Int
  f1 : Int
  f2 : Int
  h0 : Int
  h1 : Int

/-- A row of symbols in memory. -/
def SymRow (w : World) (a : Option Addr) (l : List Sym) : Prop :=
  ∀ i, (h : i < l.length) → ∃ b off, a = some ⟨b, off, none⟩ ∧ b < w.heap.size ∧ ∀ (j : Nat) (v : Value), l[i].cells[j]? = some v → w.cell? ⟨b, off + i * 16 + j, none⟩ = some v
theorem SymRow.below {w w' : World} {a : Option Addr} {l : List Sym} (h : SymRow w a l) (hb : Below w.heap.size w w') : SymRow w' a l := by
  intro i hi
  obtain ⟨b, off, ha, hl, hc⟩ := h i hi
  exact ⟨b, off, ha, Nat.lt_of_lt_of_le hl hb.size, fun j v hv => by rw [hb.cell (p := ⟨b, _, none⟩) hl]; exact hc j v hv⟩

/-- A configuration as a value: its cells, with two slices. -/
def Cfg.cells (c : Cfg) (sa ta : Option Addr) (sc tc : Nat) : Array Value :=
  #[.slice sa c.syms.length sc, .slice ta c.tab.length tc, .int .i64 c.index, .int .i64 c.f0, .int .i64 c.f1, .int .i64 c.f2, .int .i64 c.h0, .int .i64 c.h1]

/-- A configuration as it lies in memory. -/
structure Cfg.In (c : Cfg) (w : World) (sa ta : Option Addr) : Prop where
  syms : SymRow w sa c.syms
  tab : TabRow w ta c.tab
  ns : c.syms.length ≤ maxLen
  nt : c.tab.length ≤ maxLen
theorem Cfg.In.below {c : Cfg} {w w' : World} {sa ta : Option Addr} (h : c.In w sa ta) (hb : Below w.heap.size w w') : c.In w' sa ta :=
  ⟨h.syms.below hb, h.tab.below hb, h.ns, h.nt⟩

/-- The fault of the first symbol that has one, and its place. -/
def symsF : List Sym → Nat → Int × Int
  | [], _ => (0, 0)
  | s :: l, i => if symFault s = 0 then symsF l (i + 1) else (symFault s, (i : Int))

def k1 (c : Cfg) : Bool := allIn 1 1099511627776 [c.index]
def k2 (c : Cfg) : Bool := allIn 1 9999 [c.f0, c.f1, c.f2] && decide (c.f0 < c.f1) && decide (c.f1 < c.f2)
def k3 (c : Cfg) : Bool := allIn 1 1099511627776 [c.h0, c.h1]

def restF (c : Cfg) : Int := if k1 c && k2 c && k3 c then 0 else 9
def checkF (c : Cfg) : Int × Int :=
  if allIn 1 8 [(c.syms.length : Int)] then
    (if (symsF c.syms 0).1 = 0 then
      (if (tableF c.tab).1 = 0 then (restF c, 0) else tableF c.tab)
    else symsF c.syms 0)
  else (9, 0)

theorem syms_hit (l : List Sym) (k : Nat) (h : k < l.length) (hp : ¬ symFault l[k] = 0) : symsF (l.drop k) k = (symFault l[k], (k : Int)) := by
  rw [List.drop_eq_getElem_cons h]; simp [symsF, hp]
theorem syms_miss (l : List Sym) (k : Nat) (h : k < l.length) (hp : symFault l[k] = 0) : symsF (l.drop k) k = symsF (l.drop (k + 1)) (k + 1) := by
  rw [List.drop_eq_getElem_cons h]; simp [symsF, hp]

/-- A block whose cells are a configuration's. -/
def CfgBox (w : World) (p : Nat) (c : Cfg) : Prop :=
  w.cell? ⟨p, 2, none⟩ = some (.int .i64 c.index) ∧ w.cell? ⟨p, 3, none⟩ = some (.int .i64 c.f0) ∧ w.cell? ⟨p, 4, none⟩ = some (.int .i64 c.f1) ∧ w.cell? ⟨p, 5, none⟩ = some (.int .i64 c.f2) ∧
  w.cell? ⟨p, 6, none⟩ = some (.int .i64 c.h0) ∧ w.cell? ⟨p, 7, none⟩ = some (.int .i64 c.h1)
theorem CfgBox.below {w w' : World} {p : Nat} {c : Cfg} (h : CfgBox w p c) (hp : p < w.heap.size) (hb : Below w.heap.size w w') : CfgBox w' p c := by
  obtain ⟨h2, h3, h4, h5, h6, h7⟩ := h
  exact ⟨by rw [hb.cell (p := ⟨p, 2, none⟩) hp]; exact h2, by rw [hb.cell (p := ⟨p, 3, none⟩) hp]; exact h3, by rw [hb.cell (p := ⟨p, 4, none⟩) hp]; exact h4,
    by rw [hb.cell (p := ⟨p, 5, none⟩) hp]; exact h5, by rw [hb.cell (p := ⟨p, 6, none⟩) hp]; exact h6, by rw [hb.cell (p := ⟨p, 7, none⟩) hp]; exact h7⟩

theorem d1 (p : Nat) (c : Cfg) (w : World) (h : CfgBox w p c) :
    Calls Try.prog 53 #[.pointer (some ⟨p, 0, none⟩)] w fun e w' => e = .returned (.bool (k1 c)) ∧ Below w.heap.size w w' := by
  obtain ⟨h2, _, _, _, _, _⟩ := h
  go_enter Try.func53, Try.ntmps53
  go_wp2_with fail
  refine (all_any _ _ [c.index] _ _ _ (by simp [maxLen]) (nums_new _ _ _ _ _ rfl rfl)).mono ?_
  rintro e w' ⟨rfl, hb⟩
  go_wp2
  go_ret
  exact ⟨rfl, ((Below.refl _ _).alloc (Nat.le_refl _) _).trans (hb.mono (by simp))⟩

theorem d3 (p : Nat) (c : Cfg) (w : World) (h : CfgBox w p c) :
    Calls Try.prog 54 #[.pointer (some ⟨p, 0, none⟩)] w fun e w' => e = .returned (.bool (k3 c)) ∧ Below w.heap.size w w' := by
  obtain ⟨_, _, _, _, h6, h7⟩ := h
  go_enter Try.func54, Try.ntmps54
  go_wp2_with fail
  refine (all_any _ _ [c.h0, c.h1] _ _ _ (by simp [maxLen]) (nums_new _ _ _ _ _ rfl rfl)).mono ?_
  rintro e w' ⟨rfl, hb⟩
  go_wp2
  go_ret
  exact ⟨rfl, ((Below.refl _ _).alloc (Nat.le_refl _) _).trans (hb.mono (by simp))⟩

theorem d2 (p : Nat) (c : Cfg) (w : World) (h : CfgBox w p c) (hp : p < w.heap.size) :
    Calls Try.prog 51 #[.pointer (some ⟨p, 0, none⟩)] w fun e w' => e = .returned (.bool (k2 c)) ∧ Below w.heap.size w w' := by
  have hB := Lib.hid h
  obtain ⟨_, h3, h4, h5, _, _⟩ := h
  go_enter Try.func51, Try.ntmps51
  go_wp2_with fail
  refine (all_any _ _ [c.f0, c.f1, c.f2] _ _ _ (by simp [maxLen]) (nums_new _ _ _ _ _ rfl rfl)).mono ?_
  rintro e w' ⟨rfl, hb⟩
  have hb' : Below w.heap.size w w' := ((Below.refl _ _).alloc (Nat.le_refl _) _).trans (hb.mono (by simp))
  clear h3 h4 h5
  obtain ⟨_, h3, h4, h5, _, _⟩ := hB.out.below hp hb'
  cases hr : allIn 1 9999 [c.f0, c.f1, c.f2] with
  | false =>
    have HS := Lib.hid (show k2 c = false by simp [k2, hr])
    go_wp2
    go_ret
    exact ⟨ret_bool HS.out.symm, hb'⟩
  | true =>
  have HR := Lib.hid hr
  clear hr
  by_cases h01 : c.f0 < c.f1
  · by_cases h12 : c.f1 < c.f2
    · have HS := Lib.hid (show k2 c = true by simp [k2, HR.out, h01, h12])
      go_wp2
      go_ret
      exact ⟨ret_bool HS.out.symm, hb'⟩
    · have HS := Lib.hid (show k2 c = false by simp [k2, h12])
      go_wp2
      go_ret
      exact ⟨ret_bool (by rw [HS.out]; simp; omega), hb'⟩
  · have HS := Lib.hid (show k2 c = false by simp [k2, h01])
    go_wp2
    go_ret
    exact ⟨ret_bool HS.out.symm, hb'⟩

def rules (p : Nat) (c : Cfg) : List First.R :=
  [⟨53, #[.pointer (some ⟨p, 0, none⟩)], 9, k1 c⟩, ⟨51, #[.pointer (some ⟨p, 0, none⟩)], 9, k2 c⟩, ⟨54, #[.pointer (some ⟨p, 0, none⟩)], 9, k3 c⟩]
theorem fault_rules (p : Nat) (c : Cfg) : First.fault (rules p c) = restF c := by
  unfold rules restF
  simp only [First.fault]
  cases k1 c <;> cases k2 c <;> cases k3 c <;> rfl
theorem in1 (c : Array Value) (w : World) : (callFunc 51 c).run Try.prog w = .ok (.enter 51 c) w := callFunc_enter Try.func51 (by kernel_rfl) (by kernel_rfl) c w
theorem in2 (c : Array Value) (w : World) : (callFunc 53 c).run Try.prog w = .ok (.enter 53 c) w := callFunc_enter Try.func53 (by kernel_rfl) (by kernel_rfl) c w
theorem in3 (c : Array Value) (w : World) : (callFunc 54 c).run Try.prog w = .ok (.enter 54 c) w := callFunc_enter Try.func54 (by kernel_rfl) (by kernel_rfl) c w

theorem check_none (c : Cfg) (h : allIn 1 8 [(c.syms.length : Int)] = false) : checkF c = (9, 0) := by simp [checkF, h]
theorem check_sym (c : Cfg) (h : allIn 1 8 [(c.syms.length : Int)] = true) (hs : (symsF c.syms 0).1 ≠ 0) : checkF c = symsF c.syms 0 := by simp [checkF, h, hs]
theorem check_tab (c : Cfg) (h : allIn 1 8 [(c.syms.length : Int)] = true) (hs : (symsF c.syms 0).1 = 0) (ht : (tableF c.tab).1 ≠ 0) : checkF c = tableF c.tab := by simp [checkF, h, hs, ht]
theorem check_last (c : Cfg) (h : allIn 1 8 [(c.syms.length : Int)] = true) (hs : (symsF c.syms 0).1 = 0) (ht : (tableF c.tab).1 = 0) : checkF c = (restF c, 0) := by simp only [checkF, h, if_true, hs, ht]

set_option maxHeartbeats 4000000 in
theorem check_any (c : Cfg) (sa ta : Option Addr) (sc tc : Nat) (w : World) (hin : c.In w sa ta) :
    Calls Try.prog 28 #[.agg (c.cells sa ta sc tc)] w fun e w' => e = .returned (.tuple #[.int .i64 (checkF c).1, .int .i64 (checkF c).2]) ∧ Below w.heap.size w w' := by
  obtain ⟨hsy, htb, hns, hnt⟩ := hin
  have hns' := hns
  unfold maxLen at hns'
  have hbx := Lib.hid (show ∀ w' : World, Below (w.heap.size + 1) (w.alloc (.cells (c.cells sa ta sc tc) 27)) w' → CfgBox w' w.heap.size c from fun w' hb =>
    CfgBox.below ⟨cell_new _ _ _ _ _ _ rfl rfl, cell_new _ _ _ _ _ _ rfl rfl, cell_new _ _ _ _ _ _ rfl rfl, cell_new _ _ _ _ _ _ rfl rfl, cell_new _ _ _ _ _ _ rfl rfl, cell_new _ _ _ _ _ _ rfl rfl⟩ (by simp) (hb.mono (by simp)))
  have hsl := Lib.hid (show ∀ w' : World, Below (w.heap.size + 1) (w.alloc (.cells (c.cells sa ta sc tc) 27)) w' → w'.cell? ⟨w.heap.size, 0, none⟩ = some (.slice sa c.syms.length sc) ∧ w'.cell? ⟨w.heap.size, 1, none⟩ = some (.slice ta c.tab.length tc) from fun w' hb => by
    rw [hb.cell (p := ⟨w.heap.size, 0, none⟩) (by simp), hb.cell (p := ⟨w.heap.size, 1, none⟩) (by simp)]
    exact ⟨cell_new _ _ _ _ _ _ rfl rfl, cell_new _ _ _ _ _ _ rfl rfl⟩)
  have hba := Lib.hid (show Below w.heap.size w (w.alloc (.cells (c.cells sa ta sc tc) 27)) from (Below.refl _ _).alloc (Nat.le_refl _) _)
  have hbz := Lib.hid (show (w.alloc (.cells (c.cells sa ta sc tc) 27)).heap.size = w.heap.size + 1 by simp)
  unfold Cfg.cells at *
  go_enter Try.func28, Try.ntmps28
  go_wp2_with fail
  refine (all_any _ _ [(c.syms.length : Int)] _ _ _ (by simp [maxLen]) (nums_new _ _ _ _ _ (by simp) rfl)).mono ?_
  rintro e w0 ⟨rfl, hb0⟩
  generalize hW : w.alloc (Obj.cells #[Value.slice sa c.syms.length sc, Value.slice ta c.tab.length tc, Value.int IntKind.i64 c.index, Value.int IntKind.i64 c.f0, Value.int IntKind.i64 c.f1, Value.int IntKind.i64 c.f2, Value.int IntKind.i64 c.h0, Value.int IntKind.i64 c.h1] 27) = W at hbx hsl hba hbz hb0
  clear hW
  have hsz := hbz.out
  have hb : Below (w.heap.size + 1) W w0 := ((Below.refl _ _).alloc (by omega) _).trans (hb0.mono (by simp; omega))
  clear hb0 hsz
  cases hl : allIn 1 8 [(c.syms.length : Int)] with
  | false =>
    have HS := Lib.hid (check_none c hl)
    go_wp2
    go_ret2
    exact ⟨ret_two HS.out, hba.out.trans (hb.mono (by omega))⟩
  | true =>
  have HL := Lib.hid hl
  clear hl
  obtain ⟨e0, _⟩ := hsl.out w0 hb
  go_wp2_with fail
  clear e0
  go_loopw [19] (fun i wr => ∃ k : Nat, k ≤ c.syms.length ∧ i = .int .i64 k ∧ Below (w.heap.size + 1) W wr ∧ symsF (c.syms.drop k) k = symsF c.syms 0) (fun i _ => c.syms.length - (intOf i).toNat)
  case atStart => exact ⟨0, by omega, rfl, hb, rfl⟩
  case round =>
    clear hb
    obtain ⟨k, hk, rfl, hb, hf⟩ := hrel
    have HF := Lib.hid hf
    clear hf
    have hwr : w.heap.size + 1 ≤ wr.heap.size := by have := hb.size; rw [hbz.out] at this; exact this
    have hbw := hba.out.trans (hb.mono (Nat.le_succ _))
    by_cases hlt : k < c.syms.length
    · obtain ⟨b, off, rfl, hbl, hc⟩ := hsy k hlt
      have HM := Lib.hid (syms_miss c.syms k hlt)
      have HH := Lib.hid (syms_hit c.syms k hlt)
      generalize c.syms[k] = s at hc HM HH
      have g0 : wr.cell? ⟨b, off + k * 16, none⟩ = some (.int .i64 s.grid) := by rw [hbw.cell (p := ⟨b, _, none⟩) hbl]; exact hc 0 _ rfl
      have g1 : wr.cell? ⟨b, off + k * 16 + 1, none⟩ = some (.int .i64 s.ref) := by rw [hbw.cell (p := ⟨b, _, none⟩) hbl]; exact hc 1 _ rfl
      have g2 : wr.cell? ⟨b, off + k * 16 + 2, none⟩ = some (.int .i64 s.static) := by rw [hbw.cell (p := ⟨b, _, none⟩) hbl]; exact hc 2 _ rfl
      have g3 : wr.cell? ⟨b, off + k * 16 + 3, none⟩ = some (.int .i64 s.dynamic) := by rw [hbw.cell (p := ⟨b, _, none⟩) hbl]; exact hc 3 _ rfl
      have g4 : wr.cell? ⟨b, off + k * 16 + 4, none⟩ = some (.int .i64 s.window) := by rw [hbw.cell (p := ⟨b, _, none⟩) hbl]; exact hc 4 _ rfl
      have g5 : wr.cell? ⟨b, off + k * 16 + 5, none⟩ = some (.int .i64 s.move) := by rw [hbw.cell (p := ⟨b, _, none⟩) hbl]; exact hc 5 _ rfl
      have g6 : wr.cell? ⟨b, off + k * 16 + 6, none⟩ = some (.int .i64 s.limit) := by rw [hbw.cell (p := ⟨b, _, none⟩) hbl]; exact hc 6 _ rfl
      have g7 : wr.cell? ⟨b, off + k * 16 + 7, none⟩ = some (.int .i64 s.pause) := by rw [hbw.cell (p := ⟨b, _, none⟩) hbl]; exact hc 7 _ rfl
      have g8 : wr.cell? ⟨b, off + k * 16 + 8, none⟩ = some (.int .i64 s.ext) := by rw [hbw.cell (p := ⟨b, _, none⟩) hbl]; exact hc 8 _ rfl
      have g9 : wr.cell? ⟨b, off + k * 16 + 9, none⟩ = some (.int .i64 s.maxExt) := by rw [hbw.cell (p := ⟨b, _, none⟩) hbl]; exact hc 9 _ rfl
      have g10 : wr.cell? ⟨b, off + k * 16 + 10, none⟩ = some (.int .i64 s.collar) := by rw [hbw.cell (p := ⟨b, _, none⟩) hbl]; exact hc 10 _ rfl
      have g11 : wr.cell? ⟨b, off + k * 16 + 11, none⟩ = some (.int .i64 s.widen) := by rw [hbw.cell (p := ⟨b, _, none⟩) hbl]; exact hc 11 _ rfl
      have g12 : wr.cell? ⟨b, off + k * 16 + 12, none⟩ = some (.int .i64 s.self) := by rw [hbw.cell (p := ⟨b, _, none⟩) hbl]; exact hc 12 _ rfl
      have g13 : wr.cell? ⟨b, off + k * 16 + 13, none⟩ = some (.int .i64 s.slots) := by rw [hbw.cell (p := ⟨b, _, none⟩) hbl]; exact hc 13 _ rfl
      have g14 : wr.cell? ⟨b, off + k * 16 + 14, none⟩ = some (.int .i64 s.levels) := by rw [hbw.cell (p := ⟨b, _, none⟩) hbl]; exact hc 14 _ rfl
      have g15 : wr.cell? ⟨b, off + k * 16 + 15, none⟩ = some (.int .i64 s.short) := by rw [hbw.cell (p := ⟨b, _, none⟩) hbl]; exact hc 15 _ rfl
      clear hc hsy htb
      have hbl' : b < wr.heap.size := by omega
      go_wp2_with fail
      refine (symbol_any s _).mono ?_
      rintro e w1 ⟨rfl, hb1⟩
      have hb' : Below (w.heap.size + 1) W w1 := (hb.alloc hwr _).trans (hb1.mono (by simp; omega))
      clear g0 g1 g2 g3 g4 g5 g6 g7 g8 g9 g10 g11 g12 g13 g14 g15 hb1
      by_cases hp : symFault s = 0
      · have HX := Lib.hid (HM.out hp)
        have hp' : (symFault s != 0) = false := by simp [hp]
        clear hp
        go_wp2
        go_roundw
        case rel => exact ⟨k + 1, by omega, by go_num, hb', by rw [← HX.out, HF.out]⟩
        case measure => simp [intOf]; omega
      · have HX := Lib.hid (HH.out hp)
        have hp' : (symFault s != 0) = true := by simp [hp]
        have HP := Lib.hid hp
        clear hp
        go_wp2
        go_ret2
        exact ⟨ret_two (by rw [check_sym c HL.out (by rw [← HF.out, HX.out]; exact HP.out), ← HF.out, HX.out]), hba.out.trans (hb'.mono (by omega))⟩
    · have HZ : Hid ((symsF c.syms 0).1 = 0) := by
        have := HF.out
        rw [List.drop_eq_nil_of_le (by omega)] at this
        show (symsF c.syms 0).1 = 0
        rw [← this]; rfl
      obtain ⟨_, e1⟩ := hsl.out wr hb
      clear hsy
      go_wp2_with fail
      refine (table_any ta tc c.tab wr hnt (htb.below hbw)).mono ?_
      rintro e w1 ⟨rfl, hb1⟩
      have hb' : Below (w.heap.size + 1) W w1 := hb.trans (hb1.mono hwr)
      clear htb hb1 e1
      by_cases hp : (tableF c.tab).1 = 0
      · have hp' : ((tableF c.tab).1 != 0) = false := by simp [hp]
        have HS := Lib.hid (check_last c HL.out HZ.out hp)
        clear hp
        have hw1 : w.heap.size + 1 ≤ w1.heap.size := by have := hb'.size; rw [hbz.out] at this; exact this
        go_wp2_with fail
        refine (First.first_any w1.heap.size 3 (rules w.heap.size c) _ (by simp [rules, maxLen]) (by simp) ?_ ?_ ?_).mono ?_
        · intro i hi
          have hi' : i = 0 ∨ i = 1 ∨ i = 2 := by simp [rules] at hi; omega
          rcases hi' with rfl | rfl | rfl <;> exact ⟨cell_new _ _ _ _ _ _ rfl rfl, cell_new _ _ _ _ _ _ rfl rfl⟩
        · intro i hi
          have hi' : i = 0 ∨ i = 1 ∨ i = 2 := by simp [rules] at hi; omega
          rcases hi' with rfl | rfl | rfl
          · exact in2 _
          · exact in1 _
          · exact in3 _
        · intro i hi _ w' hbb
          have hb2 : Below (w.heap.size + 1) W w' := (hb'.alloc hw1 _).trans (hbb.mono (by simp; omega))
          have hx := hbx.out w' hb2
          have hpp : w.heap.size < w'.heap.size := by have := hb2.size; rw [hbz.out] at this; omega
          have hi' : i = 0 ∨ i = 1 ∨ i = 2 := by simp [rules] at hi; omega
          rcases hi' with rfl | rfl | rfl
          · exact d1 _ _ _ hx
          · exact d2 _ _ _ hx hpp
          · exact d3 _ _ _ hx
        · rintro e w2 ⟨rfl, hb2⟩
          rw [fault_rules]
          go_wp2
          go_ret2
          exact ⟨ret_two HS.out, (hba.out.trans (((hb'.alloc hw1 _).trans (hb2.mono (by simp; omega))).mono (by omega)))⟩
      · have hp' : ((tableF c.tab).1 != 0) = true := by simp [hp]
        have HS := Lib.hid (check_tab c HL.out HZ.out hp)
        clear hp
        go_wp2
        go_ret2
        exact ⟨by rw [HS.out]; rfl, hba.out.trans (hb'.mono (by omega))⟩
end Go.Proofs.Ytggkhnmhhifniaa.Check
