/- (*watch.Watch).Put: a message is told. -/
import Derived.Test.YtggkhnmhhifniaaWatchLevel
import Derived.StillTailTactics
namespace Go.Proofs.Ytggkhnmhhifniaa.Watch
open Go.RowKit Go.Proofs.Ytggkhnmhhifniaa.Kit Go.Proofs.Ytggkhnmhhifniaa.Blk Go.Proofs.Ytggkhnmhhifniaa.Symbol
attribute [local go_sem ↓] Go.wp_at_zero Go.wp_at_succ

/-- Below number n nothing has changed but blocks d and e. -/
structure Chg2 (n d e : Nat) (w w' : World) : Prop where
  os : w'.os = w.os
  tape : w'.tape = w.tape
  output : w'.output = w.output
  size : w.heap.size ≤ w'.heap.size
  block : ∀ k, k < n → k ≠ d → k ≠ e → w'.heap[k]? = w.heap[k]?
section
variable {n d e : Nat} {a w w' : World}
theorem Chg2.refl (n d e : Nat) (w : World) : Chg2 n d e w w := ⟨rfl, rfl, rfl, Nat.le_refl _, fun _ _ _ _ => rfl⟩
theorem Chg2.trans {b c : World} (h : Chg2 n d e a b) (k : Chg2 n d e b c) : Chg2 n d e a c :=
  ⟨k.os.trans h.os, k.tape.trans h.tape, k.output.trans h.output, Nat.le_trans h.size k.size, fun i hi hd he => (k.block i hi hd he).trans (h.block i hi hd he)⟩
theorem Chg2.mono {n' : Nat} (h : Chg2 n d e w w') (hn : n' ≤ n) : Chg2 n' d e w w' := ⟨h.os, h.tape, h.output, h.size, fun k hk => h.block k (Nat.lt_of_lt_of_le hk hn)⟩
theorem Chg2.of (h : Below n w w') : Chg2 n d e w w' := ⟨h.os, h.tape, h.output, h.size, fun k hk _ _ => h.block k hk⟩
theorem Chg2.of1 (h : Chg n d w w') : Chg2 n d e w w' := ⟨h.os, h.tape, h.output, h.size, fun k hk hd _ => h.block k hk hd⟩
theorem Chg2.of2 (h : Chg n e w w') : Chg2 n d e w w' := ⟨h.os, h.tape, h.output, h.size, fun k hk _ he => h.block k hk he⟩
theorem Chg2.step {w2 : World} (h : Chg2 n d e a w) (k : Below n w w2) : Chg2 n d e a w2 := h.trans (Chg2.of k)
theorem Chg2.drew (h : Chg2 n d e a w) : Chg2 n d e a w.drew := h.step (Below.refl _ _).drew
theorem Chg2.setCell (h : Chg2 n d e a w) (p : Addr) (v : Value) (hp : p.block = d ∨ p.block = e ∨ n ≤ p.block) : Chg2 n d e a (w.setCell p v) :=
  h.trans ⟨rfl, rfl, rfl, by simp [World.setCell], fun k hk hd he => Below.heap_setCell _ _ _ _ (by omega)⟩
theorem Chg2.blk {B : Nat} {cs : Array Value} {T : TypeId} (h : Chg2 n d e w w') (hB : B < n) (hd : B ≠ d) (he : B ≠ e) (hb : Blk w B cs T) : Blk w' B cs T := by
  unfold Blk; rw [h.block B hB hd he]; exact hb
theorem Chg2.cell (h : Chg2 n d e w w') {p : Addr} (hp : p.block < n) (hd : p.block ≠ d) (he : p.block ≠ e) : w'.cell? p = w.cell? p := World.cell?_of_block (h.block p.block hp hd he)
end

section
variable {w : World} {P L cap : Nat} {sy : List Sym} {ks : List Kn} {seq tick : Int}
theorem PW.setSeq (h : PW w P L cap sy ks seq tick) (v : Int) : PW (w.setCell ⟨P, 1, none⟩ (.int .i64 v)) P L cap sy ks v tick :=
  ⟨by have := h.head.set 1 (.int .i64 v); exact this, fun i hi j u hu => by rw [World.cell?_setCell_far _ _ _ _ (show P ≠ L from h.ne)]; exact h.row i hi j u hu, fun j => by rw [World.frozen?_setCell]; exact h.free j,
    h.len, h.ne, by simpa [World.setCell] using h.lt, h.few⟩
theorem PW.setTick (h : PW w P L cap sy ks seq tick) (v : Int) : PW (w.setCell ⟨P, 2, none⟩ (.int .i64 v)) P L cap sy ks seq v :=
  ⟨by have := h.head.set 2 (.int .i64 v); exact this, fun i hi j u hu => by rw [World.cell?_setCell_far _ _ _ _ (show P ≠ L from h.ne)]; exact h.row i hi j u hu, fun j => by rw [World.frozen?_setCell]; exact h.free j,
    h.len, h.ne, by simpa [World.setCell] using h.lt, h.few⟩
end

def addT (k : Kn) (code q : Int) : Kn :=
  if code = 1 then { k with t0 := wrap64 (k.t0 + q), t1 := wrap64 (k.t1 + q) } else if code = 2 then { k with t0 := wrap64 (k.t0 + q), t2 := wrap64 (k.t2 + q) }
  else { k with t0 := wrap64 (k.t0 + q), t3 := wrap64 (k.t3 + q) }
/-- What is known of a symbol behind a message of its own. -/
def tellF (s : Sym) (k : Kn) (m : Msg) : Kn :=
  if m.kind = 3 then addT k m.code m.qty else if m.kind = 5 then { k with blo := m.price, bhi := m.qty } else if m.kind = 8 then { k with clo := m.price, chi := m.qty }
  else if m.kind = 6 then statusF s k m else k
def tellAll (sy : List Sym) (ks : List Kn) (m : Msg) : List Kn :=
  if m.kind = 9 then levelF ks m else match ofF ks.length m.sym with
  | none => ks
  | some i => ks.set i (tellF (sy.getD i noSym) (ks.getD i Kn.zero) m)

theorem fault_zero (ks : List Kn) (seq tick : Int) (k : Option Kn) (m : Msg) (h : faultF ks seq tick k m = 0) :
    (k.isSome || globalF m) = true ∧ (m.kind = 3 → openF (k.getD Kn.zero) m.code = true) := by
  unfold faultF at h
  cases h1 : (m.seq == wrap64 (seq + 1)) <;> rw [h1] at h
  · simp at h
  cases h2 : lateF ks tick m.tick <;> rw [h2] at h
  · cases h3 : (k.isSome || globalF m) <;> rw [h3] at h
    · simp at h
    · refine ⟨rfl, fun h4 => ?_⟩
      have h4 : (m.kind == 3) = true := by simp [h4]
      rw [h4] at h
      cases h5 : openF (k.getD Kn.zero) m.code
      · rw [h5] at h
        by_cases h6 : 1 ≤ m.qty <;> simp [h6] at h
      · rfl
  · simp at h
theorem open_code (k : Kn) (c : Int) (h : openF k c = true) : c = 1 ∨ c = 2 ∨ c = 3 := by
  unfold openF at h
  by_cases h1 : c = 1
  · exact Or.inl h1
  · by_cases h3 : c = 3
    · exact Or.inr (Or.inr h3)
    · by_cases h2 : c = 2
      · exact Or.inr (Or.inl h2)
      · simp [h1, h2, h3] at h

set_option maxRecDepth 20000 in
set_option maxHeartbeats 4000000 in
theorem put_any (P L cap : Nat) (sy : List Sym) (ks : List Kn) (seq tick : Int) (m : Msg) (w : World) (h : PW w P L cap sy ks seq tick) :
    Calls Try.prog 11 #[.pointer (some ⟨P, 0, none⟩), .agg m.cells] w fun e w' =>
    e = .returned (.int .i64 (faultF ks seq tick (kOf ks m.sym) m)) ∧ Chg2 w.heap.size P L w w' ∧
    (if faultF ks seq tick (kOf ks m.sym) m = 0 then PW w' P L cap sy (tellAll sy ks m) m.seq m.tick else PW w' P L cap sy ks seq tick) := by
  have HP := Lib.hid (h.below ((Below.refl _ _).alloc (Nat.le_refl _) (.cells m.cells 40)))
  have HM := Lib.hid (Blk.new w m.cells 40 w.heap.size rfl)
  have HC := Lib.hid (show Chg2 w.heap.size P L w (w.alloc (.cells m.cells 40)) from Chg2.of ((Below.refl _ _).alloc (Nat.le_refl _) _))
  have hlt := h.lt
  have hlp := h.head.lt
  have hne := h.ne
  have HF := Lib.hid (fault_zero ks seq tick (kOf ks m.sym) m)
  clear h
  go_enter Try.func11, Try.ntmps11
  go_upto_region 1 with fail
  have hz : (w.alloc (.cells m.cells 40)).heap.size = w.heap.size + 1 := by simp
  generalize w.alloc (.cells m.cells 40) = W at HP HM HC hz ⊢
  have m0 : W.cell? ⟨w.heap.size, 0, none⟩ = some (.int .i64 m.kind) := HM.out.cell 0 rfl
  have m1 : W.cell? ⟨w.heap.size, 1, none⟩ = some (.int .i64 m.sym) := HM.out.cell 1 rfl
  have m2 : W.cell? ⟨w.heap.size, 2, none⟩ = some (.int .i64 m.seq) := HM.out.cell 2 rfl
  have m3 : W.cell? ⟨w.heap.size, 3, none⟩ = some (.int .i64 m.tick) := HM.out.cell 3 rfl
  have m4 : W.cell? ⟨w.heap.size, 4, none⟩ = some (.int .i64 m.id) := HM.out.cell 4 rfl
  have m5 : W.cell? ⟨w.heap.size, 5, none⟩ = some (.int .i64 m.wth) := HM.out.cell 5 rfl
  have m6 : W.cell? ⟨w.heap.size, 6, none⟩ = some (.int .i64 m.price) := HM.out.cell 6 rfl
  have m7 : W.cell? ⟨w.heap.size, 7, none⟩ = some (.int .i64 m.qty) := HM.out.cell 7 rfl
  have m8 : W.cell? ⟨w.heap.size, 8, none⟩ = some (.int .i64 m.code) := HM.out.cell 8 rfl
  go_wp2_with fail
  refine (check_any P L cap sy ks seq tick m _ HP.out).mono ?_
  rintro e w1 ⟨rfl, hb1⟩
  have HP1 := Lib.hid (HP.out.below hb1)
  have HM1 := Lib.hid (HM.out.below hb1 HM.out.lt)
  have HC1 := Lib.hid (HC.out.step (hb1.mono (by omega)))
  clear m0 m1 m2 m3 m4 m5 m6 m7 m8 HP HM HC hb1
  by_cases hf : faultF ks seq tick (kOf ks m.sym) m = 0
  · obtain ⟨hg, ho⟩ := HF.out hf
    have HFF := Lib.hid hf
    have f0 : (faultF ks seq tick (kOf ks m.sym) m != 0) = false := by rw [hf]; rfl
    clear hf
    have m2 : w1.cell? ⟨w.heap.size, 2, none⟩ = some (.int .i64 m.seq) := HM1.out.cell 2 rfl
    have m3 : w1.cell? ⟨w.heap.size, 3, none⟩ = some (.int .i64 m.tick) := HM1.out.cell 3 rfl
    have p1 : w1.cell? ⟨P, 1, none⟩ = some (.int .i64 seq) := HP1.out.head.cell 1 rfl
    have p2 : w1.cell? ⟨P, 2, none⟩ = some (.int .i64 tick) := HP1.out.head.cell 2 rfl
    have q1 : w1.frozen? ⟨P, 1, none⟩ = false := HP1.out.head.free 1
    have q2 : w1.frozen? ⟨P, 2, none⟩ = false := HP1.out.head.free 2
    have hnp : P ≠ w.heap.size := by omega
    go_upto_region 6 with fail
    go_region_held3 (fun w' => w'.cell? ⟨w.heap.size, 2, none⟩ = some (.int .i64 m.seq) ∧ w'.cell? ⟨w.heap.size, 3, none⟩ = some (.int .i64 m.tick))
      (first | exact ⟨m2, m3⟩ | (simp [m2, m3, World.cell?_setCell_far, hnp])) (fail)
    have hp2 : PW ((w1.setCell ⟨P, 1, none⟩ (.int .i64 m.seq)).setCell ⟨P, 2, none⟩ (.int .i64 m.tick)).drew P L cap sy ks m.seq m.tick := ((HP1.out.setSeq m.seq).setTick m.tick).below (Below.refl _ _).drew
    have hm2 : Blk ((w1.setCell ⟨P, 1, none⟩ (.int .i64 m.seq)).setCell ⟨P, 2, none⟩ (.int .i64 m.tick)).drew w.heap.size m.cells 40 := ((HM1.out.apart ⟨P, 1, none⟩ (.int .i64 m.seq) hnp).apart ⟨P, 2, none⟩ (.int .i64 m.tick) hnp).drew
    have hc2 : Chg2 w.heap.size P L w ((w1.setCell ⟨P, 1, none⟩ (.int .i64 m.seq)).setCell ⟨P, 2, none⟩ (.int .i64 m.tick)).drew := ((HC1.out.setCell ⟨P, 1, none⟩ (.int .i64 m.seq) (Or.inl rfl)).setCell ⟨P, 2, none⟩ (.int .i64 m.tick) (Or.inl rfl)).drew
    clear m2 m3 p1 p2 q1 q2 HP1 HM1 HC1
    have HP2 := Lib.hid hp2
    have HM2 := Lib.hid hm2
    have HC2 := Lib.hid hc2
    clear hp2 hm2 hc2
    generalize ((w1.setCell ⟨P, 1, none⟩ (.int .i64 m.seq)).setCell ⟨P, 2, none⟩ (.int .i64 m.tick)).drew = W2 at *
    have m0 : W2.cell? ⟨w.heap.size, 0, none⟩ = some (.int .i64 m.kind) := HM2.out.cell 0 rfl
    have m1 : W2.cell? ⟨w.heap.size, 1, none⟩ = some (.int .i64 m.sym) := HM2.out.cell 1 rfl
    go_wp2_with fail
    refine (of_any P L cap sy ks m.seq m.tick m.sym _ HP2.out).mono ?_
    rintro e w' ⟨rfl, rfl⟩
    have hzz := HM2.out.lt
    by_cases k9 : m.kind = 9
    · have b9 : (m.kind == 9) = true := by simp [k9]
      have HT := Lib.hid (show tellAll sy ks m = levelF ks m by simp [tellAll, k9])
      clear k9
      have m2 : W2.cell? ⟨w.heap.size, 2, none⟩ = some (.int .i64 m.seq) := HM2.out.cell 2 rfl
      have m3 : W2.cell? ⟨w.heap.size, 3, none⟩ = some (.int .i64 m.tick) := HM2.out.cell 3 rfl
      have m4 : W2.cell? ⟨w.heap.size, 4, none⟩ = some (.int .i64 m.id) := HM2.out.cell 4 rfl
      have m5 : W2.cell? ⟨w.heap.size, 5, none⟩ = some (.int .i64 m.wth) := HM2.out.cell 5 rfl
      have m6 : W2.cell? ⟨w.heap.size, 6, none⟩ = some (.int .i64 m.price) := HM2.out.cell 6 rfl
      have m7 : W2.cell? ⟨w.heap.size, 7, none⟩ = some (.int .i64 m.qty) := HM2.out.cell 7 rfl
      have m8 : W2.cell? ⟨w.heap.size, 8, none⟩ = some (.int .i64 m.code) := HM2.out.cell 8 rfl
      go_wp2_with fail
      refine (level_any P L cap sy ks m.seq m.tick m _ HP2.out).mono ?_
      rintro e w3 ⟨rfl, hp3, hc3⟩
      have HP3 := Lib.hid hp3
      have HC3 := Lib.hid (HC2.out.trans (Chg2.of2 (hc3.mono (Nat.le_of_lt hzz))))
      clear hp3 hc3
      go_wp2
      go_ret
      exact ⟨rfl, HC3.out, by first | (rw [HT.out]; exact HP3.out) | (rw [if_pos HFF.out, HT.out]; exact HP3.out)⟩
    · cases hof : ofF ks.length m.sym with
      | none =>
        have hk2 : m.kind = 2 := by
          have : kOf ks m.sym = none := by unfold kOf; rw [hof]; rfl
          rw [this] at hg
          simp [globalF, k9] at hg
          exact hg
        have HT := Lib.hid (show tellAll sy ks m = ks by unfold tellAll; rw [if_neg k9, hof])
        have hv : ofV L ks.length m.sym = .pointer none := by unfold ofV; rw [hof]; rfl
        rw [hv]
        have b9 : (m.kind == 9) = false := beq_eq_false_iff_ne.2 k9
        have b3 : (m.kind == 3) = false := by rw [hk2]; rfl
        have b5 : (m.kind == 5) = false := by rw [hk2]; rfl
        have b8 : (m.kind == 8) = false := by rw [hk2]; rfl
        have b6 : (m.kind == 6) = false := by rw [hk2]; rfl
        clear hk2 hv k9 hof
        go_wp2
        go_ret
        exact ⟨rfl, HC2.out, by first | (rw [HT.out]; exact HP2.out) | (rw [if_pos HFF.out, HT.out]; exact HP2.out)⟩
      | some i =>
        have hi : i < ks.length := by
          unfold ofF at hof
          by_cases hx : 0 ≤ m.sym ∧ m.sym < ks.length
          · rw [if_pos hx] at hof; cases hof; omega
          · rw [if_neg hx] at hof; cases hof
        have hv : ofV L ks.length m.sym = .pointer (some ⟨L, i * 26, none⟩) := by unfold ofV; rw [hof]; rfl
        rw [hv]
        clear hv
        have b9 : (m.kind == 9) = false := beq_eq_false_iff_ne.2 k9
        by_cases k3 : m.kind = 3
        · have hcode : m.code = 1 ∨ m.code = 2 ∨ m.code = 3 := open_code _ _ (ho k3)
          have m7 : W2.cell? ⟨w.heap.size, 7, none⟩ = some (.int .i64 m.qty) := HM2.out.cell 7 rfl
          rcases hcode with hc | hc | hc
          · have HT := Lib.hid (show tellAll sy ks m = ks.set i { ks.getD i Kn.zero with t0 := wrap64 ((ks.getD i Kn.zero).t0 + m.qty), t1 := wrap64 ((ks.getD i Kn.zero).t1 + m.qty) } by unfold tellAll; rw [if_neg k9, hof]; simp [tellF, addT, k3, hc])
            have m8 : W2.cell? ⟨w.heap.size, 8, none⟩ = some (.int .i64 1) := by have := HM2.out.cell 8 (v := .int .i64 m.code) rfl; rw [hc] at this; exact this
            have b3 : (m.kind == 3) = true := by simp [k3]
            have HCD := Lib.hid hc
            clear k9 k3 hof hc
            have r0 : W2.cell? ⟨L, i * 26 + 22, none⟩ = some (.int .i64 (ks.getD i Kn.zero).t0) := HP2.out.row i hi 22 _ rfl
            have e0 : W2.frozen? ⟨L, i * 26 + 22, none⟩ = false := HP2.out.free _
            have hp3 := HP2.out.store i hi 22 (by decide) (.int .i64 (wrap64 ((ks.getD i Kn.zero).t0 + m.qty))) { ks.getD i Kn.zero with t0 := wrap64 ((ks.getD i Kn.zero).t0 + m.qty) } rfl
            have hc3 := HC2.out.setCell ⟨L, i * 26 + 22, none⟩ (.int .i64 (wrap64 ((ks.getD i Kn.zero).t0 + m.qty))) (Or.inr (Or.inl rfl))
            have hm3 := HM2.out.apart ⟨L, i * 26 + 22, none⟩ (.int .i64 (wrap64 ((ks.getD i Kn.zero).t0 + m.qty))) (show L ≠ w.heap.size by omega)
            generalize ks.getD i Kn.zero = q at hp3 hc3 hm3 r0 HT
            go_wp2_with fail
            go_still_tail 11, (by kernel_rfl)
            change wpList _ _ _ _ _ W2.drew
            go_wp2_with fail
            have hi3 : i < (ks.set i { q with t0 := wrap64 (q.t0 + m.qty) }).length := by rw [List.length_set]; exact hi
            have he3 : (ks.set i { q with t0 := wrap64 (q.t0 + m.qty) }).getD i Kn.zero = { q with t0 := wrap64 (q.t0 + m.qty) } := by simp only [List.getD, List.getElem?_set_self hi, Option.getD_some]
            have HP3 := Lib.hid (hp3.below (Below.refl _ _).drew)
            have HC3 := Lib.hid hc3.drew
            have HM3 := Lib.hid hm3.drew
            clear hp3 hc3 hm3 m0 m1 m7 m8 r0 e0
            generalize (W2.setCell ⟨L, i * 26 + 22, none⟩ (.int .i64 (wrap64 (q.t0 + m.qty)))).drew = W3 at *
            have m7 : W3.cell? ⟨w.heap.size, 7, none⟩ = some (.int .i64 m.qty) := HM3.out.cell 7 rfl
            have m8 : W3.cell? ⟨w.heap.size, 8, none⟩ = some (.int .i64 1) := HM3.out.cell 8 (v := .int .i64 1) (by show some (Value.int .i64 m.code) = _; rw [HCD.out])
            have r1 : W3.cell? ⟨L, i * 26 + 23, none⟩ = some (.int .i64 q.t1) := by have h5 := HP3.out.row i hi3 23 _ rfl; rw [he3] at h5; exact h5
            have e1 : W3.frozen? ⟨L, i * 26 + 23, none⟩ = false := HP3.out.free _
            have hp4 := HP3.out.store i hi3 23 (by decide) (.int .i64 (wrap64 (q.t1 + m.qty))) { q with t0 := wrap64 (q.t0 + m.qty), t1 := wrap64 (q.t1 + m.qty) } (by rw [he3]; rfl)
            rw [List.set_set] at hp4
            have HP4 := Lib.hid (hp4.below (Below.refl _ _).drew)
            have HC4 := Lib.hid (HC3.out.setCell ⟨L, i * 26 + 23, none⟩ (.int .i64 (wrap64 (q.t1 + m.qty))) (Or.inr (Or.inl rfl))).drew
            clear hp4 he3 hi3
            go_still_tail 13, (by kernel_rfl)
            change wpList _ _ _ _ _ W3.drew
            go_wp2
            go_ret
            exact ⟨rfl, HC4.out, by first | (rw [HT.out]; exact HP4.out) | (rw [if_pos HFF.out, HT.out]; exact HP4.out)⟩
          · have HT := Lib.hid (show tellAll sy ks m = ks.set i { ks.getD i Kn.zero with t0 := wrap64 ((ks.getD i Kn.zero).t0 + m.qty), t2 := wrap64 ((ks.getD i Kn.zero).t2 + m.qty) } by unfold tellAll; rw [if_neg k9, hof]; simp [tellF, addT, k3, hc])
            have m8 : W2.cell? ⟨w.heap.size, 8, none⟩ = some (.int .i64 2) := by have := HM2.out.cell 8 (v := .int .i64 m.code) rfl; rw [hc] at this; exact this
            have b3 : (m.kind == 3) = true := by simp [k3]
            have HCD := Lib.hid hc
            clear k9 k3 hof hc
            have r0 : W2.cell? ⟨L, i * 26 + 22, none⟩ = some (.int .i64 (ks.getD i Kn.zero).t0) := HP2.out.row i hi 22 _ rfl
            have e0 : W2.frozen? ⟨L, i * 26 + 22, none⟩ = false := HP2.out.free _
            have hp3 := HP2.out.store i hi 22 (by decide) (.int .i64 (wrap64 ((ks.getD i Kn.zero).t0 + m.qty))) { ks.getD i Kn.zero with t0 := wrap64 ((ks.getD i Kn.zero).t0 + m.qty) } rfl
            have hc3 := HC2.out.setCell ⟨L, i * 26 + 22, none⟩ (.int .i64 (wrap64 ((ks.getD i Kn.zero).t0 + m.qty))) (Or.inr (Or.inl rfl))
            have hm3 := HM2.out.apart ⟨L, i * 26 + 22, none⟩ (.int .i64 (wrap64 ((ks.getD i Kn.zero).t0 + m.qty))) (show L ≠ w.heap.size by omega)
            generalize ks.getD i Kn.zero = q at hp3 hc3 hm3 r0 HT
            go_wp2_with fail
            go_still_tail 11, (by kernel_rfl)
            change wpList _ _ _ _ _ W2.drew
            go_wp2_with fail
            have hi3 : i < (ks.set i { q with t0 := wrap64 (q.t0 + m.qty) }).length := by rw [List.length_set]; exact hi
            have he3 : (ks.set i { q with t0 := wrap64 (q.t0 + m.qty) }).getD i Kn.zero = { q with t0 := wrap64 (q.t0 + m.qty) } := by simp only [List.getD, List.getElem?_set_self hi, Option.getD_some]
            have HP3 := Lib.hid (hp3.below (Below.refl _ _).drew)
            have HC3 := Lib.hid hc3.drew
            have HM3 := Lib.hid hm3.drew
            clear hp3 hc3 hm3 m0 m1 m7 m8 r0 e0
            generalize (W2.setCell ⟨L, i * 26 + 22, none⟩ (.int .i64 (wrap64 (q.t0 + m.qty)))).drew = W3 at *
            have m7 : W3.cell? ⟨w.heap.size, 7, none⟩ = some (.int .i64 m.qty) := HM3.out.cell 7 rfl
            have m8 : W3.cell? ⟨w.heap.size, 8, none⟩ = some (.int .i64 2) := HM3.out.cell 8 (v := .int .i64 2) (by show some (Value.int .i64 m.code) = _; rw [HCD.out])
            have r1 : W3.cell? ⟨L, i * 26 + 24, none⟩ = some (.int .i64 q.t2) := by have h5 := HP3.out.row i hi3 24 _ rfl; rw [he3] at h5; exact h5
            have e1 : W3.frozen? ⟨L, i * 26 + 24, none⟩ = false := HP3.out.free _
            have hp4 := HP3.out.store i hi3 24 (by decide) (.int .i64 (wrap64 (q.t2 + m.qty))) { q with t0 := wrap64 (q.t0 + m.qty), t2 := wrap64 (q.t2 + m.qty) } (by rw [he3]; rfl)
            rw [List.set_set] at hp4
            have HP4 := Lib.hid (hp4.below (Below.refl _ _).drew)
            have HC4 := Lib.hid (HC3.out.setCell ⟨L, i * 26 + 24, none⟩ (.int .i64 (wrap64 (q.t2 + m.qty))) (Or.inr (Or.inl rfl))).drew
            clear hp4 he3 hi3
            go_still_tail 13, (by kernel_rfl)
            change wpList _ _ _ _ _ W3.drew
            go_wp2
            go_ret
            exact ⟨rfl, HC4.out, by first | (rw [HT.out]; exact HP4.out) | (rw [if_pos HFF.out, HT.out]; exact HP4.out)⟩
          · have HT := Lib.hid (show tellAll sy ks m = ks.set i { ks.getD i Kn.zero with t0 := wrap64 ((ks.getD i Kn.zero).t0 + m.qty), t3 := wrap64 ((ks.getD i Kn.zero).t3 + m.qty) } by unfold tellAll; rw [if_neg k9, hof]; simp [tellF, addT, k3, hc])
            have m8 : W2.cell? ⟨w.heap.size, 8, none⟩ = some (.int .i64 3) := by have := HM2.out.cell 8 (v := .int .i64 m.code) rfl; rw [hc] at this; exact this
            have b3 : (m.kind == 3) = true := by simp [k3]
            have HCD := Lib.hid hc
            clear k9 k3 hof hc
            have r0 : W2.cell? ⟨L, i * 26 + 22, none⟩ = some (.int .i64 (ks.getD i Kn.zero).t0) := HP2.out.row i hi 22 _ rfl
            have e0 : W2.frozen? ⟨L, i * 26 + 22, none⟩ = false := HP2.out.free _
            have hp3 := HP2.out.store i hi 22 (by decide) (.int .i64 (wrap64 ((ks.getD i Kn.zero).t0 + m.qty))) { ks.getD i Kn.zero with t0 := wrap64 ((ks.getD i Kn.zero).t0 + m.qty) } rfl
            have hc3 := HC2.out.setCell ⟨L, i * 26 + 22, none⟩ (.int .i64 (wrap64 ((ks.getD i Kn.zero).t0 + m.qty))) (Or.inr (Or.inl rfl))
            have hm3 := HM2.out.apart ⟨L, i * 26 + 22, none⟩ (.int .i64 (wrap64 ((ks.getD i Kn.zero).t0 + m.qty))) (show L ≠ w.heap.size by omega)
            generalize ks.getD i Kn.zero = q at hp3 hc3 hm3 r0 HT
            go_wp2_with fail
            go_still_tail 11, (by kernel_rfl)
            change wpList _ _ _ _ _ W2.drew
            go_wp2_with fail
            have hi3 : i < (ks.set i { q with t0 := wrap64 (q.t0 + m.qty) }).length := by rw [List.length_set]; exact hi
            have he3 : (ks.set i { q with t0 := wrap64 (q.t0 + m.qty) }).getD i Kn.zero = { q with t0 := wrap64 (q.t0 + m.qty) } := by simp only [List.getD, List.getElem?_set_self hi, Option.getD_some]
            have HP3 := Lib.hid (hp3.below (Below.refl _ _).drew)
            have HC3 := Lib.hid hc3.drew
            have HM3 := Lib.hid hm3.drew
            clear hp3 hc3 hm3 m0 m1 m7 m8 r0 e0
            generalize (W2.setCell ⟨L, i * 26 + 22, none⟩ (.int .i64 (wrap64 (q.t0 + m.qty)))).drew = W3 at *
            have m7 : W3.cell? ⟨w.heap.size, 7, none⟩ = some (.int .i64 m.qty) := HM3.out.cell 7 rfl
            have m8 : W3.cell? ⟨w.heap.size, 8, none⟩ = some (.int .i64 3) := HM3.out.cell 8 (v := .int .i64 3) (by show some (Value.int .i64 m.code) = _; rw [HCD.out])
            have r1 : W3.cell? ⟨L, i * 26 + 25, none⟩ = some (.int .i64 q.t3) := by have h5 := HP3.out.row i hi3 25 _ rfl; rw [he3] at h5; exact h5
            have e1 : W3.frozen? ⟨L, i * 26 + 25, none⟩ = false := HP3.out.free _
            have hp4 := HP3.out.store i hi3 25 (by decide) (.int .i64 (wrap64 (q.t3 + m.qty))) { q with t0 := wrap64 (q.t0 + m.qty), t3 := wrap64 (q.t3 + m.qty) } (by rw [he3]; rfl)
            rw [List.set_set] at hp4
            have HP4 := Lib.hid (hp4.below (Below.refl _ _).drew)
            have HC4 := Lib.hid (HC3.out.setCell ⟨L, i * 26 + 25, none⟩ (.int .i64 (wrap64 (q.t3 + m.qty))) (Or.inr (Or.inl rfl))).drew
            clear hp4 he3 hi3
            go_still_tail 13, (by kernel_rfl)
            change wpList _ _ _ _ _ W3.drew
            go_wp2
            go_ret
            exact ⟨rfl, HC4.out, by first | (rw [HT.out]; exact HP4.out) | (rw [if_pos HFF.out, HT.out]; exact HP4.out)⟩
        have b3 : (m.kind == 3) = false := beq_eq_false_iff_ne.2 k3
        by_cases k5 : m.kind = 5
        · skip
          have HT := Lib.hid (show tellAll sy ks m = ks.set i { ks.getD i Kn.zero with blo := m.price, bhi := m.qty } by unfold tellAll; rw [if_neg k9, hof]; simp [tellF, k5])
          have b5 : (m.kind == 5) = true := by simp [k5]
          clear k9 k5 hof k3
          have m0 : W2.cell? ⟨w.heap.size, 0, none⟩ = some (.int .i64 m.kind) := HM2.out.cell 0 rfl
          have m6 : W2.cell? ⟨w.heap.size, 6, none⟩ = some (.int .i64 m.price) := HM2.out.cell 6 rfl
          have m7 : W2.cell? ⟨w.heap.size, 7, none⟩ = some (.int .i64 m.qty) := HM2.out.cell 7 rfl
          have r1 : W2.cell? ⟨L, i * 26 + 17, none⟩ = some (.int .i64 (ks.getD i Kn.zero).blo) := HP2.out.row i hi 17 _ rfl
          have r2 : W2.cell? ⟨L, i * 26 + 18, none⟩ = some (.int .i64 (ks.getD i Kn.zero).bhi) := HP2.out.row i hi 18 _ rfl
          have e1 : W2.frozen? ⟨L, i * 26 + 17, none⟩ = false := HP2.out.free _
          have e2 : W2.frozen? ⟨L, i * 26 + 18, none⟩ = false := HP2.out.free _
          have hp3 := HP2.out.store i hi 17 (by decide) (.int .i64 m.price) { ks.getD i Kn.zero with blo := m.price } rfl
          have hp4 := hp3.store i (by rw [List.length_set]; exact hi) 18 (by decide) (.int .i64 m.qty) { ks.getD i Kn.zero with blo := m.price, bhi := m.qty } (by simp only [List.getD, List.getElem?_set_self hi, Option.getD_some]; rfl)
          rw [List.set_set] at hp4
          have HP3 := Lib.hid hp4
          have HC3 := Lib.hid ((HC2.out.setCell ⟨L, i * 26 + 17, none⟩ (.int .i64 m.price) (Or.inr (Or.inl rfl))).setCell ⟨L, i * 26 + 18, none⟩ (.int .i64 m.qty) (Or.inr (Or.inl rfl)))
          clear hp3 hp4
          generalize (ks.getD i Kn.zero).blo = z1 at r1
          generalize (ks.getD i Kn.zero).bhi = z2 at r2
          go_wp2
          go_ret
          exact ⟨rfl, HC3.out, by first | (rw [HT.out]; exact HP3.out) | (rw [if_pos HFF.out, HT.out]; exact HP3.out)⟩
        have b5 : (m.kind == 5) = false := beq_eq_false_iff_ne.2 k5
        by_cases k8 : m.kind = 8
        · skip
          have HT := Lib.hid (show tellAll sy ks m = ks.set i { ks.getD i Kn.zero with clo := m.price, chi := m.qty } by unfold tellAll; rw [if_neg k9, hof]; simp [tellF, k8])
          have b8 : (m.kind == 8) = true := by simp [k8]
          clear k9 k8 hof k3 k5
          have m0 : W2.cell? ⟨w.heap.size, 0, none⟩ = some (.int .i64 m.kind) := HM2.out.cell 0 rfl
          have m6 : W2.cell? ⟨w.heap.size, 6, none⟩ = some (.int .i64 m.price) := HM2.out.cell 6 rfl
          have m7 : W2.cell? ⟨w.heap.size, 7, none⟩ = some (.int .i64 m.qty) := HM2.out.cell 7 rfl
          have r1 : W2.cell? ⟨L, i * 26 + 19, none⟩ = some (.int .i64 (ks.getD i Kn.zero).clo) := HP2.out.row i hi 19 _ rfl
          have r2 : W2.cell? ⟨L, i * 26 + 20, none⟩ = some (.int .i64 (ks.getD i Kn.zero).chi) := HP2.out.row i hi 20 _ rfl
          have e1 : W2.frozen? ⟨L, i * 26 + 19, none⟩ = false := HP2.out.free _
          have e2 : W2.frozen? ⟨L, i * 26 + 20, none⟩ = false := HP2.out.free _
          have hp3 := HP2.out.store i hi 19 (by decide) (.int .i64 m.price) { ks.getD i Kn.zero with clo := m.price } rfl
          have hp4 := hp3.store i (by rw [List.length_set]; exact hi) 20 (by decide) (.int .i64 m.qty) { ks.getD i Kn.zero with clo := m.price, chi := m.qty } (by simp only [List.getD, List.getElem?_set_self hi, Option.getD_some]; rfl)
          rw [List.set_set] at hp4
          have HP3 := Lib.hid hp4
          have HC3 := Lib.hid ((HC2.out.setCell ⟨L, i * 26 + 19, none⟩ (.int .i64 m.price) (Or.inr (Or.inl rfl))).setCell ⟨L, i * 26 + 20, none⟩ (.int .i64 m.qty) (Or.inr (Or.inl rfl)))
          clear hp3 hp4
          generalize (ks.getD i Kn.zero).clo = z1 at r1
          generalize (ks.getD i Kn.zero).chi = z2 at r2
          go_wp2
          go_ret
          exact ⟨rfl, HC3.out, by first | (rw [HT.out]; exact HP3.out) | (rw [if_pos HFF.out, HT.out]; exact HP3.out)⟩
        have b8 : (m.kind == 8) = false := beq_eq_false_iff_ne.2 k8
        by_cases k6 : m.kind = 6
        · have HT := Lib.hid (show tellAll sy ks m = ks.set i (statusF (sy.getD i noSym) (ks.getD i Kn.zero) m) by unfold tellAll; rw [if_neg k9, hof]; simp [tellF, k6])
          have b6 : (m.kind == 6) = true := by simp [k6]
          clear k9 k3 k5 k8 k6 hof
          have m0 : W2.cell? ⟨w.heap.size, 0, none⟩ = some (.int .i64 m.kind) := HM2.out.cell 0 rfl
          have m1 : W2.cell? ⟨w.heap.size, 1, none⟩ = some (.int .i64 m.sym) := HM2.out.cell 1 rfl
          have m2 : W2.cell? ⟨w.heap.size, 2, none⟩ = some (.int .i64 m.seq) := HM2.out.cell 2 rfl
          have m3 : W2.cell? ⟨w.heap.size, 3, none⟩ = some (.int .i64 m.tick) := HM2.out.cell 3 rfl
          have m4 : W2.cell? ⟨w.heap.size, 4, none⟩ = some (.int .i64 m.id) := HM2.out.cell 4 rfl
          have m5 : W2.cell? ⟨w.heap.size, 5, none⟩ = some (.int .i64 m.wth) := HM2.out.cell 5 rfl
          have m6 : W2.cell? ⟨w.heap.size, 6, none⟩ = some (.int .i64 m.price) := HM2.out.cell 6 rfl
          have m7 : W2.cell? ⟨w.heap.size, 7, none⟩ = some (.int .i64 m.qty) := HM2.out.cell 7 rfl
          have m8 : W2.cell? ⟨w.heap.size, 8, none⟩ = some (.int .i64 m.code) := HM2.out.cell 8 rfl
          go_wp2_with fail
          refine (status_any P L cap sy ks m.seq m.tick m i hi _ HP2.out).mono ?_
          rintro e w3 ⟨rfl, hp3, hc3⟩
          have HP3 := Lib.hid hp3
          have HC3 := Lib.hid (HC2.out.trans (Chg2.of2 (hc3.mono (Nat.le_of_lt hzz))))
          clear hp3 hc3
          go_wp2
          go_ret
          exact ⟨rfl, HC3.out, by first | (rw [HT.out]; exact HP3.out) | (rw [if_pos HFF.out, HT.out]; exact HP3.out)⟩
        · have HT := Lib.hid (show tellAll sy ks m = ks by
            unfold tellAll; rw [if_neg k9, hof]; simp only [tellF, k3, k5, k8, k6, if_false]
            rw [List.getD_eq_getElem?_getD, List.getElem?_eq_getElem hi, Option.getD_some, List.set_getElem_self])
          have b6 : (m.kind == 6) = false := beq_eq_false_iff_ne.2 k6
          clear k9 k3 k5 k8 k6 hof
          go_wp2
          go_ret
          exact ⟨rfl, HC2.out, by first | (rw [HT.out]; exact HP2.out) | (rw [if_pos HFF.out, HT.out]; exact HP2.out)⟩
  · have f0 : (faultF ks seq tick (kOf ks m.sym) m != 0) = true := bne_iff_ne.2 hf
    have HFF := Lib.hid hf
    clear hf
    go_wp2
    go_ret
    exact ⟨rfl, HC1.out, by first | exact HP1.out | (rw [if_neg HFF.out]; exact HP1.out)⟩
end Go.Proofs.Ytggkhnmhhifniaa.Watch
