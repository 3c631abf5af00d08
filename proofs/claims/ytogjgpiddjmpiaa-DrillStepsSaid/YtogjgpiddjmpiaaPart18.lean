/- Parts of the proof: DrillSteps. -/
import Derived.Test.YtogjgpiddjmpiaaPart16
import Derived.Test.YtogjgpiddjmpiaaPart1
import Derived.Test.YtogjgpiddjmpiaaPart17

/- The walk of damperlaw37.DrillSteps: it returns true, and writes nothing that was there. -/
namespace Go.Proofs.Ytogjgpiddjmpiaa.Steps
set_option linter.unusedVariables false
open Go.RowKit Go.Proofs.Ytogjgpiddjmpiaa.Kit Go.Proofs.Ytogjgpiddjmpiaa.Table Go.Proofs.Ytogjgpiddjmpiaa.Blk Go.Proofs.Ytogjgpiddjmpiaa.Octets Go.Proofs.Ytogjgpiddjmpiaa.Cmds Go.Proofs.Ytogjgpiddjmpiaa.Dice Go.Proofs.Ytogjgpiddjmpiaa.Throw Go.Proofs.Ytogjgpiddjmpiaa.Check Go.Proofs.Ytogjgpiddjmpiaa.Order Go.Proofs.Ytogjgpiddjmpiaa.Symbol Go.Proofs.Ytogjgpiddjmpiaa.Begin Go.Proofs.Ytogjgpiddjmpiaa.Price Go.Proofs.Ytogjgpiddjmpiaa.RefCheck Go.Proofs.Ytogjgpiddjmpiaa.CheckEq
attribute [local go_sem ↓] Go.wp_at_zero Go.wp_at_succ
theorem ret_steps {v : Value} {a b : Int} (h : a = b) : Ending.returned (.tuple #[v, .int .i64 a]) = .returned (.tuple #[v, .int .i64 b]) := by rw [h]
theorem stepsF_wrong {c : Cfg} {kind n : Int} (h : rightF c kind ≠ 0) : stepsF c kind n = rightF c kind := by simp [stepsF, h]
theorem stepsF_out {c : Cfg} {kind n : Int} (h : rightF c kind = 0) (hn : n < 0 ∨ 500 < n) : stepsF c kind n = 1 := by simp [stepsF, h, hn]
theorem stepsF_right {c : Cfg} {kind n : Int} (h : rightF c kind = 0) (hn : ¬ (n < 0 ∨ 500 < n)) : stepsF c kind n = 0 := by simp [stepsF, h, hn]

set_option maxRecDepth 20000 in
set_option maxHeartbeats 2000000 in
theorem steps_any (c : Cfg) (sa ta : Option Addr) (sc tc : Nat) (x kind n : Int) (w : World) (hin : c.In w sa ta) :
    Calls Try.prog 18 #[.agg (c.cells sa ta sc tc), .int .i64 kind, .int .u64 x, .int .i64 n] w (StepsIs c x kind n w) := by
  by_cases hr : rightF c kind = 0
  · by_cases hn : n < 0 ∨ 500 < n
    · have HE := Lib.hid (stepsF_out hr hn)
      have HR := Lib.hid hr
      clear hr
      have HB := Lib.hid (Blk.new w (c.cells sa ta sc tc) 34 w.heap.size rfl)
      have HW := Lib.hid (show Below w.heap.size w (w.alloc (.cells (c.cells sa ta sc tc) 34)) from (Below.refl _ _).alloc (Nat.le_refl _) _)
      have HIN := Lib.hid (fun W (hb : Below w.heap.size w W) => hin.below hb)
      clear hin
      rcases hn with hn | hn
      · go_enter Try.func18, Try.ntmps18
        go_wp2_with
          (refine load_blk (by rfl) 34 _ (by rfl) w.heap.size (by rfl) _ _ HB.out _ Try.underlying34 rfl (by kernel_rfl) ?_)
        refine (right_any c sa ta sc tc kind _ (HIN.out _ HW.out)).mono ?_
        rintro e w1 ⟨rfl, hb1⟩
        replace HW := Lib.hid (HW.out.trans (hb1.mono (by simp)))
        rw [HR.out]
        clear hb1
        go_wp2_with fail
        go_ret2
        exact ⟨_, ret_steps HE.out.symm, .inl ⟨by rw [HE.out]; first | decide | exact HR.out, rfl⟩, HW.out⟩
      · have hn2 : ¬ n < 0 := by omega
        go_enter Try.func18, Try.ntmps18
        go_wp2_with
          (refine load_blk (by rfl) 34 _ (by rfl) w.heap.size (by rfl) _ _ HB.out _ Try.underlying34 rfl (by kernel_rfl) ?_)
        refine (right_any c sa ta sc tc kind _ (HIN.out _ HW.out)).mono ?_
        rintro e w1 ⟨rfl, hb1⟩
        replace HW := Lib.hid (HW.out.trans (hb1.mono (by simp)))
        rw [HR.out]
        clear hb1
        go_wp2_with fail
        go_ret2
        exact ⟨_, ret_steps HE.out.symm, .inl ⟨by rw [HE.out]; first | decide | exact HR.out, rfl⟩, HW.out⟩
    · obtain ⟨m, rfl⟩ : ∃ m : Nat, n = m := ⟨n.toNat, by omega⟩
      refine (steps_right c sa ta sc tc x kind m w hin (rightC_of c kind hr) (by omega)).mono ?_
      rintro e w' ⟨v, rfl, hv, hb⟩
      exact ⟨v, by rw [stepsF_right hr hn], .inr ⟨stepsF_right hr hn, ⟨by omega, by omega⟩, by simpa using hv⟩, hb⟩
  · have HE := Lib.hid (stepsF_wrong hr (n := n))
    have HR := Lib.hid hr
    have hb : (rightF c kind != 0) = true := by simpa using hr
    clear hr
    have HB := Lib.hid (Blk.new w (c.cells sa ta sc tc) 34 w.heap.size rfl)
    have HW := Lib.hid (show Below w.heap.size w (w.alloc (.cells (c.cells sa ta sc tc) 34)) from (Below.refl _ _).alloc (Nat.le_refl _) _)
    have HIN := Lib.hid (fun W (hb : Below w.heap.size w W) => hin.below hb)
    clear hin
    go_enter Try.func18, Try.ntmps18
    go_wp2_with
      (refine load_blk (by rfl) 34 _ (by rfl) w.heap.size (by rfl) _ _ HB.out _ Try.underlying34 rfl (by kernel_rfl) ?_)
    refine (right_any c sa ta sc tc kind _ (HIN.out _ HW.out)).mono ?_
    rintro e w1 ⟨rfl, hb1⟩
    replace HW := Lib.hid (HW.out.trans (hb1.mono (by simp)))
    clear hb1
    go_wp2_with fail
    go_ret2
    exact ⟨_, ret_steps HE.out.symm, .inl ⟨by rw [HE.out]; first | decide | exact HR.out, rfl⟩, HW.out⟩

set_option maxRecDepth 20000 in
set_option maxHeartbeats 2000000 in
theorem rsteps_any (c : Cfg) (sa ta : Option Addr) (sc tc : Nat) (x kind n : Int) (w : World) (hin : c.In w sa ta) :
    Calls Try.prog 19 #[.agg (c.cells sa ta sc tc), .int .i64 kind, .int .u64 x, .int .i64 n] w (StepsIs c x kind n w) := by
  by_cases hr : rightF c kind = 0
  · by_cases hn : n < 0 ∨ 500 < n
    · have HE := Lib.hid (stepsF_out hr hn)
      have HR := Lib.hid hr
      obtain ⟨hck, k0, k1⟩ := kind_in hr
      have HCK := Lib.hid hck
      clear hr hck
      have HB := Lib.hid (Blk.new w (c.cells sa ta sc tc) 34 w.heap.size rfl)
      have HW := Lib.hid (show Below w.heap.size w (w.alloc (.cells (c.cells sa ta sc tc) 34)) from (Below.refl _ _).alloc (Nat.le_refl _) _)
      have HIN := Lib.hid (fun W (hb : Below w.heap.size w W) => hin.below hb)
      clear hin
      rcases hn with hn | hn
      · go_enter Try.func19, Try.ntmps19
        go_wp2_with
          (refine load_blk (by rfl) 34 _ (by rfl) w.heap.size (by rfl) _ _ HB.out _ Try.underlying34 rfl (by kernel_rfl) ?_)
        refine (check_ref c sa ta sc tc _ (HIN.out _ HW.out)).mono ?_
        rintro e w1 ⟨rfl, hb1⟩
        replace HW := Lib.hid (HW.out.trans (hb1.mono (by simp)))
        clear hb1
        rw [check_eq]
        rw [HCK.out]
        go_wp2_with fail
        go_ret2
        exact ⟨_, ret_steps HE.out.symm, .inl ⟨by rw [HE.out]; first | decide | exact HR.out, rfl⟩, HW.out⟩
      · have hn2 : ¬ n < 0 := by omega
        go_enter Try.func19, Try.ntmps19
        go_wp2_with
          (refine load_blk (by rfl) 34 _ (by rfl) w.heap.size (by rfl) _ _ HB.out _ Try.underlying34 rfl (by kernel_rfl) ?_)
        refine (check_ref c sa ta sc tc _ (HIN.out _ HW.out)).mono ?_
        rintro e w1 ⟨rfl, hb1⟩
        replace HW := Lib.hid (HW.out.trans (hb1.mono (by simp)))
        clear hb1
        rw [check_eq]
        rw [HCK.out]
        go_wp2_with fail
        go_ret2
        exact ⟨_, ret_steps HE.out.symm, .inl ⟨by rw [HE.out]; first | decide | exact HR.out, rfl⟩, HW.out⟩
    · obtain ⟨m, rfl⟩ : ∃ m : Nat, n = m := ⟨n.toNat, by omega⟩
      refine (ref_right c sa ta sc tc x kind m w hin (rightC_of c kind hr) (by omega)).mono ?_
      rintro e w' ⟨v, rfl, hv, hb⟩
      exact ⟨v, by rw [stepsF_right hr hn], .inr ⟨stepsF_right hr hn, ⟨by omega, by omega⟩, by simpa using hv⟩, hb⟩
  · by_cases hc : (checkF c).1 = 0
    · have HCK := Lib.hid hc
      have hk : kind < 0 ∨ 4 < kind := by
        unfold rightF at hr; rw [if_pos hc] at hr
        by_cases h2 : kind < 0 ∨ 4 < kind
        · exact h2
        · rw [if_neg h2] at hr; exact absurd rfl hr
      have HE := Lib.hid (show stepsF c kind n = 1 by rw [stepsF_wrong hr]; unfold rightF; rw [if_pos hc, if_pos hk])
      have HR := Lib.hid hr
      clear hr hc
      have HB := Lib.hid (Blk.new w (c.cells sa ta sc tc) 34 w.heap.size rfl)
      have HW := Lib.hid (show Below w.heap.size w (w.alloc (.cells (c.cells sa ta sc tc) 34)) from (Below.refl _ _).alloc (Nat.le_refl _) _)
      have HIN := Lib.hid (fun W (hb : Below w.heap.size w W) => hin.below hb)
      clear hin
      rcases hk with hk | hk
      · go_enter Try.func19, Try.ntmps19
        go_wp2_with
          (refine load_blk (by rfl) 34 _ (by rfl) w.heap.size (by rfl) _ _ HB.out _ Try.underlying34 rfl (by kernel_rfl) ?_)
        refine (check_ref c sa ta sc tc _ (HIN.out _ HW.out)).mono ?_
        rintro e w1 ⟨rfl, hb1⟩
        replace HW := Lib.hid (HW.out.trans (hb1.mono (by simp)))
        clear hb1
        rw [check_eq]
        rw [HCK.out]
        go_wp2_with fail
        go_ret2
        exact ⟨_, ret_steps HE.out.symm, .inl ⟨by rw [HE.out]; first | decide | exact HR.out, rfl⟩, HW.out⟩
      · have hk2 : ¬ kind < 0 := by omega
        go_enter Try.func19, Try.ntmps19
        go_wp2_with
          (refine load_blk (by rfl) 34 _ (by rfl) w.heap.size (by rfl) _ _ HB.out _ Try.underlying34 rfl (by kernel_rfl) ?_)
        refine (check_ref c sa ta sc tc _ (HIN.out _ HW.out)).mono ?_
        rintro e w1 ⟨rfl, hb1⟩
        replace HW := Lib.hid (HW.out.trans (hb1.mono (by simp)))
        clear hb1
        rw [check_eq]
        rw [HCK.out]
        go_wp2_with fail
        go_ret2
        exact ⟨_, ret_steps HE.out.symm, .inl ⟨by rw [HE.out]; first | decide | exact HR.out, rfl⟩, HW.out⟩
    · have HE := Lib.hid (show stepsF c kind n = (checkF c).1 by rw [stepsF_wrong hr]; unfold rightF; rw [if_neg hc])
      have HR := Lib.hid hc
      have hb : ((checkF c).1 != 0) = true := by simpa using hc
      clear hr hc
      have HB := Lib.hid (Blk.new w (c.cells sa ta sc tc) 34 w.heap.size rfl)
      have HW := Lib.hid (show Below w.heap.size w (w.alloc (.cells (c.cells sa ta sc tc) 34)) from (Below.refl _ _).alloc (Nat.le_refl _) _)
      have HIN := Lib.hid (fun W (hb : Below w.heap.size w W) => hin.below hb)
      clear hin
      go_enter Try.func19, Try.ntmps19
      go_wp2_with
        (refine load_blk (by rfl) 34 _ (by rfl) w.heap.size (by rfl) _ _ HB.out _ Try.underlying34 rfl (by kernel_rfl) ?_)
      refine (check_ref c sa ta sc tc _ (HIN.out _ HW.out)).mono ?_
      rintro e w1 ⟨rfl, hb1⟩
      replace HW := Lib.hid (HW.out.trans (hb1.mono (by simp)))
      clear hb1
      rw [check_eq]
      go_wp2_with fail
      go_ret2
      exact ⟨_, ret_steps HE.out.symm, .inl ⟨by rw [HE.out]; first | decide | exact HR.out, rfl⟩, HW.out⟩

theorem same_none (w : World) : Calls Try.prog 22 #[.slice none 0 0, .slice none 0 0] w fun e w' => e = .returned (.bool true) ∧ Below w.heap.size w w' := by
  go_enter Try.func22, Try.ntmps22
  go_wp2_with fail
  go_loopw [5] (fun i wr => i = .int .i64 0 ∧ wr = w) (fun _ _ => 0)
  case atStart => exact ⟨rfl, rfl⟩
  case round =>
    obtain ⟨rfl, rfl⟩ := hrel
    go_wp2_with fail
    go_ret
    exact ⟨rfl, Below.refl _ _⟩
theorem stepsS_len (c : Cfg) (x kind : Int) (n : Nat) : (stepsS c x kind n).length = n + 1 := by
  have h : ∀ n i x, (loopS c kind n i x).length = n := by
    intro n
    induction n with
    | zero => intro i x; rfl
    | succ n ih => intro i x; simp only [loopS]; split <;> simp [ih]
  simp [stepsS, h]

theorem Row.below {N : Nat} {v : Value} {ss : List Stp} {W W' : World} (h : Row N v ss W) (hb : Below W.heap.size W W') : Row N v ss W' := by
  obtain ⟨r, hr, h1, h2⟩ := h
  have k : RowR N v r W' := RowR.below ⟨h1, h2⟩ hb
  exact ⟨r, hr, k.1, k.2⟩

theorem out_below {A B C D : Prop} {N : Nat} {v : Value} {ss : List Stp} {W W' : World} (h : (A ∧ B) ∨ (C ∧ D ∧ Row N v ss W)) (hb : Below W.heap.size W W') : (A ∧ B) ∨ (C ∧ D ∧ Row N v ss W') :=
  h.imp id fun h => ⟨h.1, h.2.1, h.2.2.below hb⟩
set_option maxRecDepth 20000 in
set_option maxHeartbeats 4000000 in
theorem walk (c : Cfg) (sa ta : Option Addr) (sc tc : Nat) (kind x n : Int) (w : World) (hin : c.In w sa ta) :
    Calls Try.prog 4 #[.agg (c.cells sa ta sc tc), .int .i64 kind, .int .u64 x, .int .i64 n] w fun e w' => e = .returned (.bool true) ∧ Below w.heap.size w w' := by
  have HB := Lib.hid (Blk.new w (c.cells sa ta sc tc) 34 w.heap.size rfl)
  have HW := Lib.hid (show Below w.heap.size w (w.alloc (.cells (c.cells sa ta sc tc) 34)) from (Below.refl _ _).alloc (Nat.le_refl _) _)
  have HIN := Lib.hid (fun W (hb : Below w.heap.size w W) => hin.below hb)
  clear hin
  go_enter Try.func4, Try.ntmps4
  go_wp2_with
    (refine load_blk (by rfl) 34 _ (by rfl) w.heap.size (by rfl) _ _ HB.out _ Try.underlying34 rfl (by kernel_rfl) ?_)
  refine (Light07.light_any c sa ta sc tc _).mono ?_
  rintro e w1 ⟨rfl, hb1⟩
  replace HB := Lib.hid (HB.out.below hb1 HB.out.lt)
  replace HW := Lib.hid (HW.out.trans (hb1.mono (by simp)))
  clear hb1
  cases hl : (decide ((c.syms.length : Int) ≤ 20) && decide ((c.tab.length : Int) ≤ 40)) with
  | false =>
    go_wp2_with fail
    refine (Alive37.alive _).mono ?_
    rintro e w2 ⟨rfl, hb2⟩
    go_wp2
    go_ret
    exact ⟨rfl, HW.out.trans (hb2.mono HW.out.size)⟩
  | true =>
    clear hl
    go_wp2_with
      (refine load_blk (by rfl) 34 _ (by rfl) w.heap.size (by rfl) _ _ HB.out _ Try.underlying34 rfl (by kernel_rfl) ?_)
    refine (steps_any c sa ta sc tc x kind n _ (HIN.out _ HW.out)).mono ?_
    rintro e w2 ⟨v, rfl, hv, hb2⟩
    have HV := Lib.hid hv
    replace HB := Lib.hid (HB.out.below hb2 HB.out.lt)
    replace HW := Lib.hid (HW.out.trans (hb2.mono HW.out.size))
    clear hv hb2
    go_wp2_with
      (refine load_blk (by rfl) 34 _ (by rfl) w.heap.size (by rfl) _ _ HB.out _ Try.underlying34 rfl (by kernel_rfl) ?_)
    refine (rsteps_any c sa ta sc tc x kind n _ (HIN.out _ HW.out)).mono ?_
    rintro e w3 ⟨u, rfl, hu, hb3⟩
    replace HB := Lib.hid (HB.out.below hb3 HB.out.lt)
    replace HW := Lib.hid (HW.out.trans (hb3.mono HW.out.size))
    replace HV := Lib.hid (out_below HV.out hb3)
    have HU := Lib.hid hu
    clear hu hb3
    go_wp2_with
      (refine load_blk (by rfl) 34 _ (by rfl) w.heap.size (by rfl) _ _ HB.out _ Try.underlying34 rfl (by kernel_rfl) ?_)
    refine (begin_any c sa ta sc tc _ (HIN.out _ HW.out)).mono ?_
    rintro e w4 ⟨rfl, hb4⟩
    replace HB := Lib.hid (HB.out.below hb4 HB.out.lt)
    replace HW := Lib.hid (HW.out.trans (hb4.mono HW.out.size))
    replace HV := Lib.hid (out_below HV.out hb4)
    replace HU := Lib.hid (out_below HU.out hb4)
    clear hb4
    go_wp2_with
      (refine load_blk (by rfl) 34 _ (by rfl) w.heap.size (by rfl) _ _ HB.out _ Try.underlying34 rfl (by kernel_rfl) ?_)
    refine (rbegin_any c sa ta sc tc _ (HIN.out _ HW.out)).mono ?_
    rintro e w5 ⟨rfl, hb5⟩
    replace HW := Lib.hid (HW.out.trans (hb5.mono HW.out.size))
    replace HV := Lib.hid (out_below HV.out hb5)
    replace HU := Lib.hid (out_below HU.out hb5)
    clear hb5 HB HIN
    have HSM : Hid (Calls Try.prog 22 #[v, u] w5 fun e w' => e = .returned (.bool true) ∧ Below w5.heap.size w5 w') := Lib.hid (by
      rcases HV.out with ⟨h0, rfl⟩ | ⟨h0, _, hv⟩
      · rcases HU.out with ⟨_, rfl⟩ | ⟨h1, _⟩
        · exact same_none w5
        · exact absurd h1 h0
      · rcases HU.out with ⟨h1, _⟩ | ⟨_, _, hu⟩
        · exact absurd h0 h1
        · exact (same_steps _ _ (stepsS c x kind n.toNat) (by rw [stepsS_len]; omega) (by rw [stepsS_len]; omega) v u w5 hv hu).mono fun e w' h => ⟨h.1, h.2.1⟩)
    clear HV HU
    have eb : ∀ a : Bool, (a == a) = true := fun a => by cases a <;> rfl
    have ei : ∀ a : Int, (a == a) = true := fun a => by simp
    go_wp2_with fail
    refine HSM.out.mono ?_
    rintro e w6 ⟨rfl, hb6⟩
    go_wp2_with fail
    refine (Alive37.alive _).mono ?_
    rintro e w7 ⟨rfl, hb7⟩
    go_wp2
    go_ret
    exact ⟨rfl, (HW.out.trans (hb6.mono HW.out.size)).trans (hb7.mono (HW.out.trans (hb6.mono HW.out.size)).size)⟩
end Go.Proofs.Ytogjgpiddjmpiaa.Steps
