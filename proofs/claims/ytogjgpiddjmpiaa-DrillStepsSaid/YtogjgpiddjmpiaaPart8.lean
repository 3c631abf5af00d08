/- Parts of the proof: RefOctI, Cmd, CmdR, CmdR2, CmdE, CmdRR, CmdF, Script, Steps, StepsP. -/
import Derived.Test.YtogjgpiddjmpiaaPart7
import Derived.Lib.SlBytesRow
import Derived.Lib.BufferRead
import Derived.Deep.RegionHeld3
import Derived.Test.YtogjgpiddjmpiaaPart2
import Derived.Deep.QuietTactic

/- damperref03: turned, Int, Same. -/
namespace Go.Proofs.Ytogjgpiddjmpiaa.Octets
set_option linter.unusedVariables false
open Go.RowKit Go.Proofs.Ytogjgpiddjmpiaa.Kit Go.Proofs.Ytogjgpiddjmpiaa.Blk
attribute [local go_sem ↓] Go.wp_at_zero Go.wp_at_succ

theorem turned_any (n : Int) (h0 : -9223372036854775808 ≤ n) (h1 : n ≤ 9223372036854775807) (w : World) :
    Calls Try.prog 203 #[.int .i64 n] w fun e w' => e = .returned (.int .u64 (zig n)) ∧ w = w' := by
  by_cases h : 0 ≤ n
  · have hz : (zig n : Int) = 2 * n := by unfold zig; rw [if_pos h]; omega
    go_enter Try.func203, Try.ntmps203
    go_wp2_with fail
    go_ret
    simp [hz]
  · have hz : (zig n : Int) = -2 * n - 1 := by unfold zig; rw [if_neg h]; omega
    go_enter Try.func203, Try.ntmps203
    go_wp2_with fail
    go_ret
    simp
    omega

theorem refint_any (n : Int) (h0 : -9223372036854775808 ≤ n) (h1 : n ≤ 9223372036854775807) (w : World) :
    Calls Try.prog 188 #[.int .i64 n] w fun e w' => BytesIs (beB 8 (zig n)) w e w' := by
  have HT := Lib.hid (turned_any n h0 h1)
  have HU := Lib.hid (refuint_any (zig n) 8 (by decide) (by decide) (zig_lt n h0 h1))
  go_enter Try.func188, Try.ntmps188
  go_wp2_with (first | (go_at_call 203; refine (HT.out _).mono ?_; rintro e w1 ⟨rfl, rfl⟩) | (go_at_call 202; refine (HU.out _).mono ?_; rintro e w1 ⟨v, rfl, hv, hb⟩))
  go_ret
  exact ⟨_, rfl, hv, hb⟩

def nums (l : List Nat) : List Int := l.map fun (b : Nat) => (b : Int)
theorem own_string {N : Nat} {l : List Nat} {v : Value} {w : World} (h : Own N l v w) (h0 : 0 < l.length) : (convert 121 9 v).run Try.prog w = .ok (.string (strOfNums (nums l))) w := by
  obtain ⟨g, cap, rfl, hg1, hg2⟩ := World.ownsRow.form h h0
  refine run_convert_bytes_arg w 121 5 (by kernel_rfl) (by kernel_rfl) g 0 l.length cap (nums l) (by simp [nums]) (fun i hi => ?_) 9 (by kernel_rfl)
  have := World.ownsRow.cells h rfl i (.int .u8 (l[i] : Int)) (by simp [vals, hi])
  rw [Addr.add_mid] at this
  simpa [nums, List.getD, hi] using this

set_option maxRecDepth 20000 in
theorem same_any (N M : Nat) (l : List Nat) (h0 : 0 < l.length) (v u : Value) (w : World) (hv : Own N l v w) (hu : Own M l u w) :
    Calls Try.prog 70 #[v, u] w fun e w' => e = .returned (.bool true) ∧ w = w' := by
  have h1 := own_string hv h0
  have h2 := own_string hu h0
  clear hv hu
  generalize strOfNums (nums l) = s at h1 h2
  go_enter Try.func70, Try.ntmps70
  go_wp2_with fail
  go_ret
  simp

theorem same_nil (w : World) :
    Calls Try.prog 70 #[.slice none 0 0, .slice none 0 0] w fun e w' => e = .returned (.bool true) ∧ w = w' := by
  have h1 : (convert 121 9 (.slice none 0 0)).run Try.prog w = .ok (.string ⟨#[]⟩) w := Lib.run_convert_nil_bytes w 121 9 5 0 (by kernel_rfl) (by kernel_rfl) (by kernel_rfl)
  generalize (⟨#[]⟩ : ByteArray) = s at h1
  go_enter Try.func70, Try.ntmps70
  go_wp2_with fail
  go_ret
  simp
end Go.Proofs.Ytogjgpiddjmpiaa.Octets

/- Commands: command.Right and the document's. -/
namespace Go.Proofs.Ytogjgpiddjmpiaa.Cmds
set_option linter.unusedVariables false
open Go.RowKit Go.Proofs.Ytogjgpiddjmpiaa.Kit Go.Proofs.Ytogjgpiddjmpiaa.Blk Go.Proofs.Ytogjgpiddjmpiaa.Octets
attribute [local go_sem ↓] Go.wp_at_zero Go.wp_at_succ

structure Cmd where
  k : Int
  s : Int
  i : Int
  a : Int
  b : Int
  t : Int
  p : Int
  q : Int
  f : Int
def Cmd.cells (c : Cmd) : Array Value := #[.int .i64 c.k, .int .i64 c.s, .int .i64 c.i, .int .i64 c.a, .int .i64 c.b, .int .i64 c.t, .int .i64 c.p, .int .i64 c.q, .int .i64 c.f]
def zeroC : Cmd := ⟨0, 0, 0, 0, 0, 0, 0, 0, 0⟩
def inB (v lo hi : Int) : Bool := decide (lo ≤ v) && decide (v ≤ hi)
theorem inB_yes {v lo hi : Int} (h : inB v lo hi = true) : lo ≤ v ∧ v ≤ hi := by simpa [inB] using h
theorem inB_no {v lo hi : Int} (h : inB v lo hi = false) : v < lo ∨ hi < v := by
  simp [inB] at h
  omega
/-- What the language says of a command. -/
def rightC (c : Cmd) : Bool :=
  if inB c.s 0 255 = false then false
  else if inB c.i 0 4611686018427387904 = false then false
  else if c.k = 1 then
    if inB c.a 0 1073741824 = false then false
    else if inB c.b 0 1 = false then false
    else if inB c.t 1 5 = false then false
    else inB c.f 0 7
  else if c.k = 3 then c.a == 0 && (c.b == 0 && (c.t == 0 && c.f == 0))
  else if c.k = 2 then c.a == 0 && (c.b == 0 && (c.t == 0 && (c.p == 0 && (c.q == 0 && c.f == 0))))
  else false

set_option maxRecDepth 20000 in
theorem in_any (v lo hi : Int) (w : World) : Calls Try.prog 181 #[.int .i64 v, .int .i64 lo, .int .i64 hi] w fun e w' => e = .returned (.bool (inB v lo hi)) ∧ w = w' := by
  by_cases h1 : lo ≤ v <;> by_cases h2 : v ≤ hi <;>
  · go_enter Try.func181, Try.ntmps181
    go_wp2_with fail
    go_ret
    simp [inB, h1, h2]
theorem rin_any (v lo hi : Int) (w : World) : Calls Try.prog 186 #[.int .i64 v, .int .i64 lo, .int .i64 hi] w fun e w' => e = .returned (.bool (inB v lo hi)) ∧ w = w' := by
  by_cases h1 : lo ≤ v <;> by_cases h2 : v ≤ hi <;>
  · go_enter Try.func186, Try.ntmps186
    go_wp2_with fail
    go_ret
    simp [inB, h1, h2]
end Go.Proofs.Ytogjgpiddjmpiaa.Cmds

/- command.Right. -/
namespace Go.Proofs.Ytogjgpiddjmpiaa.Cmds
set_option linter.unusedVariables false
open Go.RowKit Go.Proofs.Ytogjgpiddjmpiaa.Kit Go.Proofs.Ytogjgpiddjmpiaa.Blk Go.Proofs.Ytogjgpiddjmpiaa.Octets
attribute [local go_sem ↓] Go.wp_at_zero Go.wp_at_succ

set_option maxRecDepth 20000 in
set_option maxHeartbeats 4000000 in
theorem right_one (c : Cmd) (w : World) (hc : c.k = 1 ∨ inB c.s 0 255 = false ∨ inB c.i 0 4611686018427387904 = false) : Calls Try.prog 139 #[.agg c.cells] w fun e w' => e = .returned (.bool (rightC c)) ∧ Below w.heap.size w w' := by
  obtain ⟨k, s, i, a, b, t, p, q, f⟩ := c
  have HB := Lib.hid (show Below w.heap.size w (w.alloc (.cells (Cmd.cells ⟨k, s, i, a, b, t, p, q, f⟩) 128)) from (Below.refl _ _).alloc (Nat.le_refl _) _)
  have HB2 := Lib.hid (show ∀ cs : Array Value, Below w.heap.size w ((w.alloc (.cells (Cmd.cells ⟨k, s, i, a, b, t, p, q, f⟩) 128)).alloc (.cells cs 128)) from fun cs => ((Below.refl _ _).alloc (Nat.le_refl _) _).alloc (by simp) _)
  unfold Cmd.cells at *
  dsimp only at hc
  cases h1 : inB s 0 255 with
  | false =>
    clear hc
    have HS := Lib.hid (show rightC ⟨k, s, i, a, b, t, p, q, f⟩ = false by simp [rightC, h1])
    go_enter Try.func139, Try.ntmps139
    go_wp2_with (go_at_call 181; refine (in_any _ _ _ _).mono ?_; rintro e w1 ⟨rfl, rfl⟩)
    go_ret
    exact ⟨ret_bool HS.out.symm, HB.out⟩
  | true =>
    cases h2 : inB i 0 4611686018427387904 with
    | false =>
      have HS := Lib.hid (show rightC ⟨k, s, i, a, b, t, p, q, f⟩ = false by simp [rightC, h2])
      clear hc
      rcases inB_no h2 with g2 | g2
      · clear h2
        go_enter Try.func139, Try.ntmps139
        go_wp2_with (go_at_call 181; refine (in_any _ _ _ _).mono ?_; rintro e w1 ⟨rfl, rfl⟩)
        go_ret
        exact ⟨ret_bool HS.out.symm, HB.out⟩
      · have g3 : ¬ i < 0 := by omega
        clear h2
        go_enter Try.func139, Try.ntmps139
        go_wp2_with (go_at_call 181; refine (in_any _ _ _ _).mono ?_; rintro e w1 ⟨rfl, rfl⟩)
        go_ret
        exact ⟨ret_bool HS.out.symm, HB.out⟩
    | true =>
      obtain ⟨g2, g3⟩ := inB_yes h2
      · obtain rfl : k = 1 := by simpa [h1, h2] using hc
        clear hc
        cases h3 : inB a 0 1073741824 with
        | false =>
          have HS := Lib.hid (show rightC ⟨1, s, i, a, b, t, p, q, f⟩ = false by simp [rightC, h1, h2, h3])
          clear h2
          go_enter Try.func139, Try.ntmps139
          go_wp2_with (go_at_call 181; refine (in_any _ _ _ _).mono ?_; rintro e w1 ⟨rfl, rfl⟩)
          go_ret
          exact ⟨ret_bool HS.out.symm, HB2.out _⟩
        | true =>
          cases h4 : inB b 0 1 with
          | false =>
            have HS := Lib.hid (show rightC ⟨1, s, i, a, b, t, p, q, f⟩ = false by simp [rightC, h1, h2, h3, h4])
            clear h2
            go_enter Try.func139, Try.ntmps139
            go_wp2_with (go_at_call 181; refine (in_any _ _ _ _).mono ?_; rintro e w1 ⟨rfl, rfl⟩)
            go_ret
            exact ⟨ret_bool HS.out.symm, HB2.out _⟩
          | true =>
            cases h5 : inB t 1 5 with
            | false =>
              have HS := Lib.hid (show rightC ⟨1, s, i, a, b, t, p, q, f⟩ = false by simp [rightC, h1, h2, h3, h4, h5])
              clear h2
              go_enter Try.func139, Try.ntmps139
              go_wp2_with (go_at_call 181; refine (in_any _ _ _ _).mono ?_; rintro e w1 ⟨rfl, rfl⟩)
              go_ret
              exact ⟨ret_bool HS.out.symm, HB2.out _⟩
            | true =>
              cases h6 : inB f 0 7 with
              | false =>
                have HS := Lib.hid (show rightC ⟨1, s, i, a, b, t, p, q, f⟩ = false by simp [rightC, h1, h2, h3, h4, h5, h6])
                clear h2
                go_enter Try.func139, Try.ntmps139
                go_wp2_with (go_at_call 181; refine (in_any _ _ _ _).mono ?_; rintro e w1 ⟨rfl, rfl⟩)
                go_ret
                exact ⟨ret_bool HS.out.symm, HB2.out _⟩
              | true =>
                have HS := Lib.hid (show rightC ⟨1, s, i, a, b, t, p, q, f⟩ = true by simp [rightC, h1, h2, h3, h4, h5, h6])
                clear h2
                go_enter Try.func139, Try.ntmps139
                go_wp2_with (go_at_call 181; refine (in_any _ _ _ _).mono ?_; rintro e w1 ⟨rfl, rfl⟩)
                go_ret
                exact ⟨ret_bool HS.out.symm, HB2.out _⟩
end Go.Proofs.Ytogjgpiddjmpiaa.Cmds

/- command.Right: cancels and replacements. -/
namespace Go.Proofs.Ytogjgpiddjmpiaa.Cmds
set_option linter.unusedVariables false
open Go.RowKit Go.Proofs.Ytogjgpiddjmpiaa.Kit Go.Proofs.Ytogjgpiddjmpiaa.Blk Go.Proofs.Ytogjgpiddjmpiaa.Octets
attribute [local go_sem ↓] Go.wp_at_zero Go.wp_at_succ

set_option maxRecDepth 20000 in
set_option maxHeartbeats 4000000 in
theorem right_any (c : Cmd) (w : World) : Calls Try.prog 139 #[.agg c.cells] w fun e w' => e = .returned (.bool (rightC c)) ∧ Below w.heap.size w w' := by
  by_cases hc : c.k = 1 ∨ inB c.s 0 255 = false ∨ inB c.i 0 4611686018427387904 = false
  · exact right_one c w hc
  obtain ⟨k, s, i, a, b, t, p, q, f⟩ := c
  have HB2 := Lib.hid (show ∀ cs : Array Value, Below w.heap.size w ((w.alloc (.cells (Cmd.cells ⟨k, s, i, a, b, t, p, q, f⟩) 128)).alloc (.cells cs 128)) from fun cs => ((Below.refl _ _).alloc (Nat.le_refl _) _).alloc (by simp) _)
  unfold Cmd.cells at *
  dsimp only at hc
  have hk1 : ¬ k = 1 := fun h => hc (.inl h)
  have h1 : inB s 0 255 = true := by
    cases h : inB s 0 255 with
    | true => rfl
    | false => exact absurd (.inr (.inl h)) hc
  have h2 : inB i 0 4611686018427387904 = true := by
    cases h : inB i 0 4611686018427387904 with
    | true => rfl
    | false => exact absurd (.inr (.inr h)) hc
  obtain ⟨g2, g3⟩ := inB_yes h2
  have b1 : (k == 1) = false := by simpa using hk1
  clear hc
  by_cases hk3 : k = 3
  · subst hk3
    have HS := Lib.hid (show rightC ⟨3, s, i, a, b, t, p, q, f⟩ = (a == 0 && (b == 0 && (t == 0 && f == 0))) by simp [rightC, h1, h2])
    clear h2 hk1
    go_enter Try.func139, Try.ntmps139
    go_wp2_with (go_at_call 181; refine (in_any _ _ _ _).mono ?_; rintro e w1 ⟨rfl, rfl⟩)
    all_goals (subst_vars; go_ret; exact ⟨ret_bool (by rw [HS.out]; try simp [*]), HB2.out _⟩)
  · have b3 : (k == 3) = false := by simpa using hk3
    by_cases hk2 : k = 2
    · subst hk2
      have HS := Lib.hid (show rightC ⟨2, s, i, a, b, t, p, q, f⟩ = (a == 0 && (b == 0 && (t == 0 && (p == 0 && (q == 0 && f == 0))))) by simp [rightC, h1, h2])
      clear h2 hk1 hk3
      go_enter Try.func139, Try.ntmps139
      go_wp2_with (go_at_call 181; refine (in_any _ _ _ _).mono ?_; rintro e w1 ⟨rfl, rfl⟩)
      all_goals (subst_vars; go_ret; exact ⟨ret_bool (by rw [HS.out]; try simp [*]), HB2.out _⟩)
    · have b2 : (k == 2) = false := by simpa using hk2
      have HS := Lib.hid (show rightC ⟨k, s, i, a, b, t, p, q, f⟩ = false by simp [rightC, h1, h2, hk1, hk2, hk3])
      clear h2 hk1 hk3 hk2
      go_enter Try.func139, Try.ntmps139
      go_wp2_with (go_at_call 181; refine (in_any _ _ _ _).mono ?_; rintro e w1 ⟨rfl, rfl⟩)
      all_goals (subst_vars; go_ret; exact ⟨ret_bool (by rw [HS.out]; try simp [*]), HB2.out _⟩)
end Go.Proofs.Ytogjgpiddjmpiaa.Cmds

/- command.Encode. -/
namespace Go.Proofs.Ytogjgpiddjmpiaa.Cmds
set_option linter.unusedVariables false
open Go.RowKit Go.Proofs.Ytogjgpiddjmpiaa.Kit Go.Proofs.Ytogjgpiddjmpiaa.Blk Go.Proofs.Ytogjgpiddjmpiaa.Octets
attribute [local go_sem ↓] Go.wp_at_zero Go.wp_at_succ

/-- The bytes of a command that is right. -/
def formC (c : Cmd) : List Nat :=
  [c.k.toNat, c.s.toNat] ++ numB c.i.toNat ++ (if c.k = 1 then numB c.a.toNat ++ [c.b.toNat, c.t.toNat, c.f.toNat] else []) ++ (if c.k = 2 then [] else beB 8 (zig c.p) ++ beB 8 (zig c.q))
/-- The bounds that go with rightC. -/
theorem right_in {c : Cmd} (h : rightC c = true) : (c.k = 1 ∨ c.k = 2 ∨ c.k = 3) ∧ (0 ≤ c.s ∧ c.s ≤ 255) ∧ (0 ≤ c.i ∧ c.i ≤ 4611686018427387904) ∧ (c.k = 1 → (0 ≤ c.a ∧ c.a ≤ 1073741824) ∧ (0 ≤ c.b ∧ c.b ≤ 1) ∧ (1 ≤ c.t ∧ c.t ≤ 5) ∧ (0 ≤ c.f ∧ c.f ≤ 7)) := by
  unfold rightC at h
  split at h
  · cases h
  split at h
  · cases h
  rename_i h1 h2
  have h1' := inB_yes (by simpa using h1)
  have h2' := inB_yes (by simpa using h2)
  refine ⟨?_, h1', h2', fun hk => ?_⟩
  · split at h
    · exact .inl (by assumption)
    · split at h
      · exact .inr (.inr (by assumption))
      · split at h
        · exact .inr (.inl (by assumption))
        · cases h
  · rw [if_pos hk] at h
    split at h
    · cases h
    split at h
    · cases h
    split at h
    · cases h
    rename_i h3 h4 h5
    exact ⟨inB_yes (by simpa using h3), inB_yes (by simpa using h4), inB_yes (by simpa using h5), inB_yes h⟩

/-- What an encoder answers: bytes of its own, or a fault. -/
def EncIs (c : Cmd) (w : World) (e : Ending) (w' : World) : Prop :=
  (rightC c = true ∧ ∃ v, e = .returned (.tuple #[v, .int .i64 0]) ∧ Own w.heap.size (formC c) v w' ∧ Below w.heap.size w w') ∨
  (rightC c = false ∧ e = .returned (.tuple #[.slice none 0 0, .int .i64 1]) ∧ Below w.heap.size w w')

theorem ws_alloc {N P : Nat} {l : List Nat} {W : World} (h : WS N P l W) (o : Obj) : WS N P l (W.alloc o) := by
  obtain ⟨v, hv, hrow⟩ := h
  exact ⟨v, hv.old o, hrow.alloc o⟩
theorem own_mono {N M : Nat} {l : List Nat} {v : Value} {W : World} (h : Own M l v W) (hN : N ≤ M) : Own N l v W :=
  ⟨h.1, h.2.imp id fun ⟨g, cap, cur, hv, hb, r⟩ => ⟨g, cap, cur, hv, Nat.le_trans hN hb, r⟩⟩
theorem numG_len (f n : Nat) : (numG f n).length ≤ f + 1 := by
  induction f generalizing n with
  | zero => simp [numG]
  | succ f ih =>
    unfold numG
    split
    · simp
    · have := ih (n / 128)
      simp
      omega
theorem numB_len (n : Nat) : (numB n).length ≤ 11 := numG_len 10 n

set_option maxRecDepth 20000 in
set_option maxHeartbeats 4000000 in
theorem encode_any (c : Cmd) (w : World) (hp0 : -9223372036854775808 ≤ c.p) (hp1 : c.p ≤ 9223372036854775807) (hq0 : -9223372036854775808 ≤ c.q) (hq1 : c.q ≤ 9223372036854775807) :
    Calls Try.prog 104 #[.agg c.cells] w (EncIs c w) := by
  have HB := Lib.hid (Blk.new w c.cells 128 w.heap.size rfl)
  have HW := Lib.hid (show Below w.heap.size w (w.alloc (.cells c.cells 128)) from (Below.refl _ _).alloc (Nat.le_refl _) _)
  have HRC := Lib.hid (right_any c)
  cases hr : rightC c with
  | false =>
    have HF := Lib.hid hr
    rw [hr] at HRC
    obtain ⟨k, s, i, a, b, t, p, q, f⟩ := c
    unfold Cmd.cells at *
    clear hr
    go_enter Try.func104, Try.ntmps104
    go_wp2_with fail
    refine (HRC.out _).mono ?_
    rintro e w1 ⟨rfl, hb1⟩
    go_wp2_with fail
    go_ret2
    exact .inr ⟨HF.out, rfl, HW.out.trans (hb1.mono (by simp))⟩
  | true =>
    have HF := Lib.hid hr
    have hin := right_in hr
    rw [hr] at HRC
    obtain ⟨k, s, i, a, b, t, p, q, f⟩ := c
    dsimp only at hin hp0 hp1 hq0 hq1
    obtain ⟨hk, ⟨hs0, hs1⟩, ⟨hi0, hi1⟩, h1⟩ := hin
    obtain ⟨k, rfl⟩ : ∃ n : Nat, k = n := ⟨k.toNat, by omega⟩
    obtain ⟨s, rfl⟩ : ∃ n : Nat, s = n := ⟨s.toNat, by omega⟩
    obtain ⟨i, rfl⟩ : ∃ n : Nat, i = n := ⟨i.toNat, by omega⟩
    have hkb : IntKind.u8.wrap (k : Int) = (k : Int) := by rw [IntKind.wrap_u8]; omega
    have hsb : IntKind.u8.wrap (s : Int) = (s : Int) := by rw [IntKind.wrap_u8]; omega
    have hib : IntKind.u64.wrap (i : Int) = (i : Int) := by rw [IntKind.wrap_u64]; omega
    unfold Cmd.cells at *
    clear hr
    go_enter Try.func104, Try.ntmps104
    go_wp2_with fail
    refine (HRC.out _).mono ?_
    rintro e w1 ⟨rfl, hb1⟩
    replace HB := Lib.hid (HB.out.below hb1 HB.out.lt)
    replace HW := Lib.hid (HW.out.trans (hb1.mono (by simp)))
    clear hb1
    have hNP : w.heap.size ≤ w1.heap.size := HW.out.size
    have HWS := Lib.hid (show WS w.heap.size w1.heap.size [] (w1.alloc (.cells #[.slice none 0 0] 230)).drew from ⟨_, (Blk.new w1 #[.slice none 0 0] 230 w1.heap.size rfl), World.ownsRow_nil _ _ _ _⟩)
    go_wp2_with fail
    replace HB := Lib.hid (show Blk (w1.alloc (.cells #[.slice none 0 0] 230)).drew w.heap.size _ 128 from HB.out.old (.cells #[.slice none 0 0] 230))
    replace HW := Lib.hid (show Below w.heap.size w (w1.alloc (.cells #[.slice none 0 0] 230)).drew from (HW.out.alloc hNP (.cells #[.slice none 0 0] 230)).drew)
    refine wp_region_held_drew (S := (fun w' => w'.cell? ⟨w.heap.size, 0, none⟩ = some (.int .i64 k) ∧ w'.cell? ⟨w.heap.size, 1, none⟩ = some (.int .i64 s) ∧ w'.cell? ⟨w.heap.size, 2, none⟩ = some (.int .i64 i))) (by kernel_rfl) ⟨HB.out.cell 0 rfl, HB.out.cell 1 rfl, HB.out.cell 2 rfl⟩ (fun hHeld => ?_)
    generalize hP : w1.heap.size = P at *
    generalize (w1.alloc (.cells #[.slice none 0 0] 230)).drew = wd at HB HW HWS hHeld ⊢
    refine wpAnyH_take (i := 0) (oi := ⟨some 10, _, _, _, _, _⟩) (v := (.pointer (some ⟨P, 0, none⟩))) rfl (by kernel_rfl) (by kernel_rfl) (by kernel_rfl) (fun _ _ _ h => h) (Or.inl ⟨by rfl, fun w hSw => by (try dsimp only at hSw); go_simp⟩) (by assumption) ?_
    simp only [Act.put, List.setIfInBounds_toArray, List.set_cons_zero, List.set_cons_succ]
    refine wpAnyH_take (i := 1) (oi := ⟨some 11, _, _, _, _, _⟩) (v := (.pointer (some ⟨w.heap.size, 0, none⟩))) rfl (by kernel_rfl) (by kernel_rfl) (by kernel_rfl) (fun _ _ _ h => h) (Or.inl ⟨by rfl, fun w hSw => by (try dsimp only at hSw); go_simp⟩) (by assumption) ?_
    simp only [Act.put, List.setIfInBounds_toArray, List.set_cons_zero, List.set_cons_succ]
    refine wpAnyH_take (i := 2) (oi := ⟨some 12, _, _, _, _, _⟩) (v := (.int .i64 k)) rfl (by kernel_rfl) (by kernel_rfl) (by kernel_rfl) (fun _ _ _ h => h) (Or.inl ⟨by rfl, fun w hSw => by (try dsimp only at hSw); go_simp⟩) (by assumption) ?_
    simp only [Act.put, List.setIfInBounds_toArray, List.set_cons_zero, List.set_cons_succ]
    refine wpAnyH_take (i := 3) (oi := ⟨some 13, _, _, _, _, _⟩) (v := (.int .u8 k)) rfl (by kernel_rfl) (by kernel_rfl) (by kernel_rfl) (fun _ _ _ h => h) (Or.inl ⟨by rfl, fun w hSw => by (try dsimp only at hSw); go_simp⟩) (by assumption) ?_
    simp only [Act.put, List.setIfInBounds_toArray, List.set_cons_zero, List.set_cons_succ]
    refine wpAnyH_take (i := 4) (oi := ⟨some 14, _, _, _, _, _⟩) (v := (.pointer (some ⟨w.heap.size, 1, none⟩))) rfl (by kernel_rfl) (by kernel_rfl) (by kernel_rfl) (fun _ _ _ h => h) (Or.inl ⟨by rfl, fun w hSw => by (try dsimp only at hSw); go_simp⟩) (by assumption) ?_
    simp only [Act.put, List.setIfInBounds_toArray, List.set_cons_zero, List.set_cons_succ]
    refine wpAnyH_take (i := 5) (oi := ⟨some 15, _, _, _, _, _⟩) (v := (.int .i64 s)) rfl (by kernel_rfl) (by kernel_rfl) (by kernel_rfl) (fun _ _ _ h => h) (Or.inl ⟨by rfl, fun w hSw => by (try dsimp only at hSw); go_simp⟩) (by assumption) ?_
    simp only [Act.put, List.setIfInBounds_toArray, List.set_cons_zero, List.set_cons_succ]
    refine wpAnyH_take (i := 6) (oi := ⟨some 16, _, _, _, _, _⟩) (v := (.int .u8 s)) rfl (by kernel_rfl) (by kernel_rfl) (by kernel_rfl) (fun _ _ _ h => h) (Or.inl ⟨by rfl, fun w hSw => by (try dsimp only at hSw); go_simp⟩) (by assumption) ?_
    simp only [Act.put, List.setIfInBounds_toArray, List.set_cons_zero, List.set_cons_succ]
    refine wpAnyH_take (i := 9) (oi := ⟨some 19, _, _, _, _, _⟩) (v := (.pointer (some ⟨w.heap.size, 2, none⟩))) rfl (by kernel_rfl) (by kernel_rfl) (by kernel_rfl) (fun _ _ _ h => h) (Or.inl ⟨by rfl, fun w hSw => by (try dsimp only at hSw); go_simp⟩) (by assumption) ?_
    simp only [Act.put, List.setIfInBounds_toArray, List.set_cons_zero, List.set_cons_succ]
    refine wpAnyH_take (i := 10) (oi := ⟨some 20, _, _, _, _, _⟩) (v := (.int .i64 i)) rfl (by kernel_rfl) (by kernel_rfl) (by kernel_rfl) (fun _ _ _ h => h) (Or.inl ⟨by rfl, fun w hSw => by (try dsimp only at hSw); go_simp⟩) (by assumption) ?_
    simp only [Act.put, List.setIfInBounds_toArray, List.set_cons_zero, List.set_cons_succ]
    refine wpAnyH_take (i := 11) (oi := ⟨some 21, _, _, _, _, _⟩) (v := (.int .u64 i)) rfl (by kernel_rfl) (by kernel_rfl) (by kernel_rfl) (fun _ _ _ h => h) (Or.inl ⟨by rfl, fun w hSw => by (try dsimp only at hSw); go_simp⟩) (by assumption) ?_
    simp only [Act.put, List.setIfInBounds_toArray, List.set_cons_zero, List.set_cons_succ]
    refine wpAnyH_ready (rs := [7]) (by kernel_rfl) (by simp) ?_
    refine AllReadyH.cons (o := ⟨some 17, _, _, _, _, _⟩) rfl (fun KK hK => ?_) AllReadyH.nil
    go_simp
    change KK _ (wd.alloc (.cells #[.int .u8 k, .int .u8 s] 5))
    have HNB := Lib.hid (Blk.new wd #[.int .u8 (k : Int), .int .u8 (s : Int)] 5 wd.heap.size rfl)
    replace HB := Lib.hid (HB.out.old (.cells #[.int .u8 (k : Int), .int .u8 (s : Int)] 5))
    replace HW := Lib.hid (HW.out.alloc HW.out.size (.cells #[.int .u8 (k : Int), .int .u8 (s : Int)] 5))
    replace HWS := Lib.hid (ws_alloc HWS.out (.cells #[.int .u8 (k : Int), .int .u8 (s : Int)] 5))
    refine hK.out _ _ ⟨HB.out.cell 0 rfl, HB.out.cell 1 rfl, HB.out.cell 2 rfl⟩ (fun hHeld => ?_)
    clear hK; try clear KK
    try simp only [Act.put, List.setIfInBounds_toArray, List.set_cons_zero, List.set_cons_succ]
    refine wpAnyH_ready (rs := [8]) (by kernel_rfl) (by simp) ?_
    refine AllReadyH.cons (o := ⟨some 18, _, _, _, _, _⟩) rfl (fun KK hK => ?_) AllReadyH.nil
    go_simp
    refine (raw_any w.heap.size P hNP [] [k, s] (by simp) (by simp) (by simp) _ 2 _ HW.out.size HWS.out HNB.out).mono ?_
    rintro e w2 ⟨rfl, hws, hkp⟩
    clear HNB
    replace HB := Lib.hid (hkp.blk _ _ _ HB.out (by decide) (by decide))
    replace HW := Lib.hid (HW.out.trans hkp.bel)
    replace HWS := Lib.hid hws
    clear hws hkp
    go_wp2_with fail
    refine hK.out _ _ ⟨HB.out.cell 0 rfl, HB.out.cell 1 rfl, HB.out.cell 2 rfl⟩ (fun hHeld => ?_)
    clear hK; try clear KK
    try simp only [Act.put, List.setIfInBounds_toArray, List.set_cons_zero, List.set_cons_succ]
    refine wpAnyH_ready (rs := [12]) (by kernel_rfl) (by simp) ?_
    refine AllReadyH.cons (o := ⟨some 22, _, _, _, _, _⟩) rfl (fun KK hK => ?_) AllReadyH.nil
    go_simp
    refine (num_any w.heap.size P hNP _ (by simp) i (by omega) _ HW.out.size HWS.out).mono ?_
    rintro e w3 ⟨rfl, hws, hkp⟩
    replace HB := Lib.hid (hkp.blk _ _ _ HB.out (by decide) (by decide))
    replace HW := Lib.hid (HW.out.trans hkp.bel)
    replace HWS := Lib.hid hws
    clear hws hkp
    go_wp2_with fail
    refine hK.out _ _ ⟨HB.out.cell 0 rfl, HB.out.cell 1 rfl, HB.out.cell 2 rfl⟩ (fun hHeld => ?_)
    clear hK; try clear KK
    try simp only [Act.put, List.setIfInBounds_toArray, List.set_cons_zero, List.set_cons_succ]
    refine wpAnyH_done (by kernel_rfl) ?_ _
    have HL := Lib.hid (show ([] ++ [k, s] ++ numB i).length ≤ 20 by have := numB_len i; simp; omega)
    have HL0 := Lib.hid (show 0 < ([] ++ [k, s] ++ numB i).length by simp)
    have HLE := Lib.hid (show [] ++ [k, s] ++ numB i = [k, s] ++ numB i by simp)
    generalize [] ++ [k, s] ++ numB i = l at HWS HL HL0 HLE
    have c0 : w3.cell? ⟨w.heap.size, 0, none⟩ = some (.int .i64 k) := HB.out.cell 0 rfl
    by_cases hk1 : k = 1
    · subst hk1
      obtain ⟨⟨ha0, ha1⟩, ⟨hb0, hb1⟩, ⟨ht0, ht1⟩, hf0, hf1⟩ := h1 rfl
      obtain ⟨a, rfl⟩ : ∃ n : Nat, a = n := ⟨a.toNat, by omega⟩
      obtain ⟨b, rfl⟩ : ∃ n : Nat, b = n := ⟨b.toNat, by omega⟩
      obtain ⟨t, rfl⟩ : ∃ n : Nat, t = n := ⟨t.toNat, by omega⟩
      obtain ⟨f, rfl⟩ : ∃ n : Nat, f = n := ⟨f.toNat, by omega⟩
      have hab : IntKind.u64.wrap (a : Int) = (a : Int) := by rw [IntKind.wrap_u64]; omega
      have hbb : IntKind.u8.wrap (b : Int) = (b : Int) := by rw [IntKind.wrap_u8]; omega
      have htb : IntKind.u8.wrap (t : Int) = (t : Int) := by rw [IntKind.wrap_u8]; omega
      have hfb : IntKind.u8.wrap (f : Int) = (f : Int) := by rw [IntKind.wrap_u8]; omega
      clear h1 hk
      go_wp2_with fail
      replace HB := Lib.hid (show Blk w3.drew w.heap.size _ 128 from HB.out)
      replace HW := Lib.hid (show Below w.heap.size w w3.drew from HW.out.drew)
      replace HWS := Lib.hid (show WS w.heap.size P l w3.drew from HWS.out)
      refine wp_region_held_drew (S := (fun w' => w'.cell? ⟨w.heap.size, 3, none⟩ = some (.int .i64 a) ∧ w'.cell? ⟨w.heap.size, 4, none⟩ = some (.int .i64 b) ∧ w'.cell? ⟨w.heap.size, 5, none⟩ = some (.int .i64 t) ∧ w'.cell? ⟨w.heap.size, 8, none⟩ = some (.int .i64 f))) (by kernel_rfl) ⟨HB.out.cell 3 rfl, HB.out.cell 4 rfl, HB.out.cell 5 rfl, HB.out.cell 8 rfl⟩ (fun hHeld => ?_)
      clear c0
      generalize w3.drew = wd at HB HW HWS hHeld ⊢
      refine wpAnyH_take (i := 0) (oi := ⟨some 26, _, _, _, _, _⟩) (v := (.pointer (some ⟨P, 0, none⟩))) rfl (by kernel_rfl) (by kernel_rfl) (by kernel_rfl) (fun _ _ _ h => h) (Or.inl ⟨by rfl, fun w hSw => by (try dsimp only at hSw); go_simp⟩) (by assumption) ?_
      simp only [Act.put, List.setIfInBounds_toArray, List.set_cons_zero, List.set_cons_succ]
      refine wpAnyH_take (i := 1) (oi := ⟨some 27, _, _, _, _, _⟩) (v := (.pointer (some ⟨w.heap.size, 3, none⟩))) rfl (by kernel_rfl) (by kernel_rfl) (by kernel_rfl) (fun _ _ _ h => h) (Or.inl ⟨by rfl, fun w hSw => by (try dsimp only at hSw); go_simp⟩) (by assumption) ?_
      simp only [Act.put, List.setIfInBounds_toArray, List.set_cons_zero, List.set_cons_succ]
      refine wpAnyH_take (i := 2) (oi := ⟨some 28, _, _, _, _, _⟩) (v := (.int .i64 a)) rfl (by kernel_rfl) (by kernel_rfl) (by kernel_rfl) (fun _ _ _ h => h) (Or.inl ⟨by rfl, fun w hSw => by (try dsimp only at hSw); go_simp⟩) (by assumption) ?_
      simp only [Act.put, List.setIfInBounds_toArray, List.set_cons_zero, List.set_cons_succ]
      refine wpAnyH_take (i := 3) (oi := ⟨some 29, _, _, _, _, _⟩) (v := (.int .u64 a)) rfl (by kernel_rfl) (by kernel_rfl) (by kernel_rfl) (fun _ _ _ h => h) (Or.inl ⟨by rfl, fun w hSw => by (try dsimp only at hSw); go_simp⟩) (by assumption) ?_
      simp only [Act.put, List.setIfInBounds_toArray, List.set_cons_zero, List.set_cons_succ]
      refine wpAnyH_take (i := 5) (oi := ⟨some 31, _, _, _, _, _⟩) (v := (.pointer (some ⟨w.heap.size, 4, none⟩))) rfl (by kernel_rfl) (by kernel_rfl) (by kernel_rfl) (fun _ _ _ h => h) (Or.inl ⟨by rfl, fun w hSw => by (try dsimp only at hSw); go_simp⟩) (by assumption) ?_
      simp only [Act.put, List.setIfInBounds_toArray, List.set_cons_zero, List.set_cons_succ]
      refine wpAnyH_take (i := 6) (oi := ⟨some 32, _, _, _, _, _⟩) (v := (.int .i64 b)) rfl (by kernel_rfl) (by kernel_rfl) (by kernel_rfl) (fun _ _ _ h => h) (Or.inl ⟨by rfl, fun w hSw => by (try dsimp only at hSw); go_simp⟩) (by assumption) ?_
      simp only [Act.put, List.setIfInBounds_toArray, List.set_cons_zero, List.set_cons_succ]
      refine wpAnyH_take (i := 7) (oi := ⟨some 33, _, _, _, _, _⟩) (v := (.int .u8 b)) rfl (by kernel_rfl) (by kernel_rfl) (by kernel_rfl) (fun _ _ _ h => h) (Or.inl ⟨by rfl, fun w hSw => by (try dsimp only at hSw); go_simp⟩) (by assumption) ?_
      simp only [Act.put, List.setIfInBounds_toArray, List.set_cons_zero, List.set_cons_succ]
      refine wpAnyH_take (i := 8) (oi := ⟨some 34, _, _, _, _, _⟩) (v := (.pointer (some ⟨w.heap.size, 5, none⟩))) rfl (by kernel_rfl) (by kernel_rfl) (by kernel_rfl) (fun _ _ _ h => h) (Or.inl ⟨by rfl, fun w hSw => by (try dsimp only at hSw); go_simp⟩) (by assumption) ?_
      simp only [Act.put, List.setIfInBounds_toArray, List.set_cons_zero, List.set_cons_succ]
      refine wpAnyH_take (i := 9) (oi := ⟨some 35, _, _, _, _, _⟩) (v := (.int .i64 t)) rfl (by kernel_rfl) (by kernel_rfl) (by kernel_rfl) (fun _ _ _ h => h) (Or.inl ⟨by rfl, fun w hSw => by (try dsimp only at hSw); go_simp⟩) (by assumption) ?_
      simp only [Act.put, List.setIfInBounds_toArray, List.set_cons_zero, List.set_cons_succ]
      refine wpAnyH_take (i := 10) (oi := ⟨some 36, _, _, _, _, _⟩) (v := (.int .u8 t)) rfl (by kernel_rfl) (by kernel_rfl) (by kernel_rfl) (fun _ _ _ h => h) (Or.inl ⟨by rfl, fun w hSw => by (try dsimp only at hSw); go_simp⟩) (by assumption) ?_
      simp only [Act.put, List.setIfInBounds_toArray, List.set_cons_zero, List.set_cons_succ]
      refine wpAnyH_take (i := 11) (oi := ⟨some 37, _, _, _, _, _⟩) (v := (.pointer (some ⟨w.heap.size, 8, none⟩))) rfl (by kernel_rfl) (by kernel_rfl) (by kernel_rfl) (fun _ _ _ h => h) (Or.inl ⟨by rfl, fun w hSw => by (try dsimp only at hSw); go_simp⟩) (by assumption) ?_
      simp only [Act.put, List.setIfInBounds_toArray, List.set_cons_zero, List.set_cons_succ]
      refine wpAnyH_take (i := 12) (oi := ⟨some 38, _, _, _, _, _⟩) (v := (.int .i64 f)) rfl (by kernel_rfl) (by kernel_rfl) (by kernel_rfl) (fun _ _ _ h => h) (Or.inl ⟨by rfl, fun w hSw => by (try dsimp only at hSw); go_simp⟩) (by assumption) ?_
      simp only [Act.put, List.setIfInBounds_toArray, List.set_cons_zero, List.set_cons_succ]
      refine wpAnyH_take (i := 13) (oi := ⟨some 39, _, _, _, _, _⟩) (v := (.int .u8 f)) rfl (by kernel_rfl) (by kernel_rfl) (by kernel_rfl) (fun _ _ _ h => h) (Or.inl ⟨by rfl, fun w hSw => by (try dsimp only at hSw); go_simp⟩) (by assumption) ?_
      simp only [Act.put, List.setIfInBounds_toArray, List.set_cons_zero, List.set_cons_succ]
      refine wpAnyH_ready (rs := [4, 14]) (by kernel_rfl) (by simp) ?_
      refine AllReadyH.cons (o := ⟨some 30, _, _, _, _, _⟩) rfl (fun KK hK => ?_) (AllReadyH.cons (o := ⟨some 40, _, _, _, _, _⟩) rfl (fun KK hK => ?_) AllReadyH.nil)
      ·
        go_simp
        refine (num_any w.heap.size P hNP l (by have := HL.out; omega) a (by omega) _ HW.out.size HWS.out).mono ?_
        rintro e w4 ⟨rfl, hws, hkp⟩
        replace HB := Lib.hid (hkp.blk _ _ _ HB.out (by decide) (by decide))
        replace HW := Lib.hid (HW.out.trans hkp.bel)
        replace HWS := Lib.hid hws
        clear hws hkp
        go_wp2_with fail
        refine hK.out _ _ ⟨HB.out.cell 3 rfl, HB.out.cell 4 rfl, HB.out.cell 5 rfl, HB.out.cell 8 rfl⟩ (fun hHeld => ?_)
        clear hK; try clear KK
        try simp only [Act.put, List.setIfInBounds_toArray, List.set_cons_zero, List.set_cons_succ]
        refine wpAnyH_ready (rs := [14]) (by kernel_rfl) (by simp) ?_
        refine AllReadyH.cons (o := ⟨some 40, _, _, _, _, _⟩) rfl (fun KK hK => ?_) AllReadyH.nil
        go_simp
        change KK _ (World.alloc w4 (.cells #[.int .u8 (b : Int), .int .u8 (t : Int), .int .u8 (f : Int)] 5))
        have HNB := Lib.hid (Blk.new w4 #[.int .u8 (b : Int), .int .u8 (t : Int), .int .u8 (f : Int)] 5 (World.heap w4).size rfl)
        have HNR := Lib.hid (nr_new HWS.out (.cells #[.int .u8 (b : Int), .int .u8 (t : Int), .int .u8 (f : Int)] 5))
        replace HB := Lib.hid (HB.out.old (.cells #[.int .u8 (b : Int), .int .u8 (t : Int), .int .u8 (f : Int)] 5))
        replace HW := Lib.hid (HW.out.alloc HW.out.size (.cells #[.int .u8 (b : Int), .int .u8 (t : Int), .int .u8 (f : Int)] 5))
        replace HWS := Lib.hid (ws_alloc HWS.out (.cells #[.int .u8 (b : Int), .int .u8 (t : Int), .int .u8 (f : Int)] 5))
        refine hK.out _ _ ⟨HB.out.cell 3 rfl, HB.out.cell 4 rfl, HB.out.cell 5 rfl, HB.out.cell 8 rfl⟩ (fun hHeld => ?_)
        clear hK; try clear KK
        try simp only [Act.put, List.setIfInBounds_toArray, List.set_cons_zero, List.set_cons_succ]
        refine wpAnyH_ready (rs := [15]) (by kernel_rfl) (by simp) ?_
        refine AllReadyH.cons (o := ⟨some 41, _, _, _, _, _⟩) rfl (fun KK hK => ?_) AllReadyH.nil
        go_simp
        refine (raw_any w.heap.size P hNP _ [b, t, f] (by have := HL.out; have := numB_len a; rw [List.length_append]; omega) (by simp) (by simp) _ 3 _ HW.out.size HWS.out HNB.out).mono ?_
        rintro e w7 ⟨rfl, hws, hkp⟩
        clear HNB HNR
        replace HB := Lib.hid (hkp.blk _ _ _ HB.out (by decide) (by decide))
        replace HW := Lib.hid (HW.out.trans hkp.bel)
        replace HWS := Lib.hid hws
        clear hws hkp
        go_wp2_with fail
        refine hK.out _ _ ⟨HB.out.cell 3 rfl, HB.out.cell 4 rfl, HB.out.cell 5 rfl, HB.out.cell 8 rfl⟩ (fun hHeld => ?_)
        clear hK; try clear KK
        try simp only [Act.put, List.setIfInBounds_toArray, List.set_cons_zero, List.set_cons_succ]
        refine wpAnyH_done (by kernel_rfl) ?_ _
        have HL2 := Lib.hid (show (l ++ numB a ++ [b, t, f]).length ≤ 40 by have := HL.out; have := numB_len a; rw [List.length_append, List.length_append]; simp; omega)
        have HL20 := Lib.hid (show 0 < (l ++ numB a ++ [b, t, f]).length by simp; omega)
        have HLE2 := Lib.hid (show l ++ numB a ++ [b, t, f] = [1, s] ++ numB i ++ numB a ++ [b, t, f] by rw [HLE.out])
        clear HL HL0 HLE
        generalize l ++ numB a ++ [b, t, f] = l at HWS HL2 HL20 HLE2
        have HL := HL2
        have HL0 := HL20
        clear HL2 HL20
        have HF1 := Lib.hid (show formC ⟨((1 : Nat) : Int), s, i, a, b, t, p, q, f⟩ = l ++ beB 8 (zig p) ++ beB 8 (zig q) by rw [HLE2.out]; simp [formC])
        have c0 : w7.cell? ⟨w.heap.size, 0, none⟩ = some (.int .i64 ((1 : Nat) : Int)) := HB.out.cell 0 rfl
        go_wp2_with fail
        replace HB := Lib.hid (show Blk w7.drew w.heap.size _ 128 from HB.out)
        replace HW := Lib.hid (show Below w.heap.size w w7.drew from HW.out.drew)
        replace HWS := Lib.hid (show WS w.heap.size P l w7.drew from HWS.out)
        refine wp_region_held_drew (S := (fun w' => w'.cell? ⟨w.heap.size, 6, none⟩ = some (.int .i64 p) ∧ w'.cell? ⟨w.heap.size, 7, none⟩ = some (.int .i64 q))) (by kernel_rfl) ⟨HB.out.cell 6 rfl, HB.out.cell 7 rfl⟩ (fun hHeld => ?_)
        generalize w7.drew = wd at HB HW HWS hHeld ⊢
        refine wpAnyH_take (i := 0) (oi := ⟨some 45, _, _, _, _, _⟩) (v := (.pointer (some ⟨P, 0, none⟩))) rfl (by kernel_rfl) (by kernel_rfl) (by kernel_rfl) (fun _ _ _ h => h) (Or.inl ⟨by rfl, fun w hSw => by (try dsimp only at hSw); go_simp⟩) (by assumption) ?_
        simp only [Act.put, List.setIfInBounds_toArray, List.set_cons_zero, List.set_cons_succ]
        refine wpAnyH_take (i := 1) (oi := ⟨some 46, _, _, _, _, _⟩) (v := (.pointer (some ⟨w.heap.size, 6, none⟩))) rfl (by kernel_rfl) (by kernel_rfl) (by kernel_rfl) (fun _ _ _ h => h) (Or.inl ⟨by rfl, fun w hSw => by (try dsimp only at hSw); go_simp⟩) (by assumption) ?_
        simp only [Act.put, List.setIfInBounds_toArray, List.set_cons_zero, List.set_cons_succ]
        refine wpAnyH_take (i := 2) (oi := ⟨some 47, _, _, _, _, _⟩) (v := (.int .i64 p)) rfl (by kernel_rfl) (by kernel_rfl) (by kernel_rfl) (fun _ _ _ h => h) (Or.inl ⟨by rfl, fun w hSw => by (try dsimp only at hSw); go_simp⟩) (by assumption) ?_
        simp only [Act.put, List.setIfInBounds_toArray, List.set_cons_zero, List.set_cons_succ]
        refine wpAnyH_take (i := 4) (oi := ⟨some 49, _, _, _, _, _⟩) (v := (.pointer (some ⟨w.heap.size, 7, none⟩))) rfl (by kernel_rfl) (by kernel_rfl) (by kernel_rfl) (fun _ _ _ h => h) (Or.inl ⟨by rfl, fun w hSw => by (try dsimp only at hSw); go_simp⟩) (by assumption) ?_
        simp only [Act.put, List.setIfInBounds_toArray, List.set_cons_zero, List.set_cons_succ]
        refine wpAnyH_take (i := 5) (oi := ⟨some 50, _, _, _, _, _⟩) (v := (.int .i64 q)) rfl (by kernel_rfl) (by kernel_rfl) (by kernel_rfl) (fun _ _ _ h => h) (Or.inl ⟨by rfl, fun w hSw => by (try dsimp only at hSw); go_simp⟩) (by assumption) ?_
        simp only [Act.put, List.setIfInBounds_toArray, List.set_cons_zero, List.set_cons_succ]
        refine wpAnyH_ready (rs := [3]) (by kernel_rfl) (by simp) ?_
        refine AllReadyH.cons (o := ⟨some 48, _, _, _, _, _⟩) rfl (fun KK hK => ?_) AllReadyH.nil
        go_simp
        refine (int_any w.heap.size P hNP l (by have := HL.out; omega) p hp0 hp1 _ HW.out.size HWS.out).mono ?_
        rintro e w5 ⟨rfl, hws, hkp⟩
        replace HB := Lib.hid (hkp.blk _ _ _ HB.out (by decide) (by decide))
        replace HW := Lib.hid (HW.out.trans hkp.bel)
        replace HWS := Lib.hid hws
        clear hws hkp
        go_wp2_with fail
        refine hK.out _ _ ⟨HB.out.cell 6 rfl, HB.out.cell 7 rfl⟩ (fun hHeld => ?_)
        clear hK; try clear KK
        try simp only [Act.put, List.setIfInBounds_toArray, List.set_cons_zero, List.set_cons_succ]
        refine wpAnyH_ready (rs := [6]) (by kernel_rfl) (by simp) ?_
        refine AllReadyH.cons (o := ⟨some 51, _, _, _, _, _⟩) rfl (fun KK hK => ?_) AllReadyH.nil
        go_simp
        refine (int_any w.heap.size P hNP _ (by have := HL.out; have := beB_len 8 (zig p); rw [List.length_append]; omega) q hq0 hq1 _ HW.out.size HWS.out).mono ?_
        rintro e w6 ⟨rfl, hws, hkp⟩
        replace HB := Lib.hid (hkp.blk _ _ _ HB.out (by decide) (by decide))
        replace HW := Lib.hid (HW.out.trans hkp.bel)
        replace HWS := Lib.hid hws
        clear hws hkp
        go_wp2_with fail
        refine hK.out _ _ ⟨HB.out.cell 6 rfl, HB.out.cell 7 rfl⟩ (fun hHeld => ?_)
        clear hK; try clear KK
        try simp only [Act.put, List.setIfInBounds_toArray, List.set_cons_zero, List.set_cons_succ]
        refine wpAnyH_done (by kernel_rfl) ?_ _
        have HL2 := Lib.hid (show (l ++ beB 8 (zig p) ++ beB 8 (zig q)).length ≤ 100 by have := HL.out; have := beB_len 8 (zig p); have := beB_len 8 (zig q); rw [List.length_append, List.length_append]; omega)
        have HL3 := Lib.hid (show 0 < (l ++ beB 8 (zig p) ++ beB 8 (zig q)).length by have := HL0.out; rw [List.length_append, List.length_append]; omega)
        rw [← HF1.out] at HWS HL2 HL3
        go_wp2_with fail
        refine (bytes_any w.heap.size P _ HL3.out (by have := HL2.out; omega) _ HWS.out).mono ?_
        rintro e w9 ⟨v, rfl, hv, hb⟩
        go_wp2_with fail
        go_ret2
        exact .inl ⟨HF.out, _, rfl, own_mono hv HW.out.size, HW.out.trans (hb.mono HW.out.size)⟩
      ·
        go_simp
        change KK _ (World.alloc wd (.cells #[.int .u8 (b : Int), .int .u8 (t : Int), .int .u8 (f : Int)] 5))
        have HNB := Lib.hid (Blk.new wd #[.int .u8 (b : Int), .int .u8 (t : Int), .int .u8 (f : Int)] 5 (World.heap wd).size rfl)
        have HNR := Lib.hid (nr_new HWS.out (.cells #[.int .u8 (b : Int), .int .u8 (t : Int), .int .u8 (f : Int)] 5))
        replace HB := Lib.hid (HB.out.old (.cells #[.int .u8 (b : Int), .int .u8 (t : Int), .int .u8 (f : Int)] 5))
        replace HW := Lib.hid (HW.out.alloc HW.out.size (.cells #[.int .u8 (b : Int), .int .u8 (t : Int), .int .u8 (f : Int)] 5))
        replace HWS := Lib.hid (ws_alloc HWS.out (.cells #[.int .u8 (b : Int), .int .u8 (t : Int), .int .u8 (f : Int)] 5))
        refine hK.out _ _ ⟨HB.out.cell 3 rfl, HB.out.cell 4 rfl, HB.out.cell 5 rfl, HB.out.cell 8 rfl⟩ (fun hHeld => ?_)
        clear hK; try clear KK
        try simp only [Act.put, List.setIfInBounds_toArray, List.set_cons_zero, List.set_cons_succ]
        refine wpAnyH_ready (rs := [4]) (by kernel_rfl) (by simp) ?_
        refine AllReadyH.cons (o := ⟨some 30, _, _, _, _, _⟩) rfl (fun KK hK => ?_) AllReadyH.nil
        go_simp
        refine (num_any w.heap.size P hNP l (by have := HL.out; omega) a (by omega) _ HW.out.size HWS.out).mono ?_
        rintro e w4 ⟨rfl, hws, hkp⟩
        replace HNB := Lib.hid (show Blk w4 wd.heap.size #[.int .u8 (b : Int), .int .u8 (t : Int), .int .u8 (f : Int)] 5 from ((hkp.apart _ HNB.out.lt HNR.out).2).trans HNB.out)
        replace HB := Lib.hid (hkp.blk _ _ _ HB.out (by decide) (by decide))
        replace HW := Lib.hid (HW.out.trans hkp.bel)
        replace HWS := Lib.hid hws
        clear hws hkp
        go_wp2_with fail
        refine hK.out _ _ ⟨HB.out.cell 3 rfl, HB.out.cell 4 rfl, HB.out.cell 5 rfl, HB.out.cell 8 rfl⟩ (fun hHeld => ?_)
        clear hK; try clear KK
        try simp only [Act.put, List.setIfInBounds_toArray, List.set_cons_zero, List.set_cons_succ]
        refine wpAnyH_ready (rs := [15]) (by kernel_rfl) (by simp) ?_
        refine AllReadyH.cons (o := ⟨some 41, _, _, _, _, _⟩) rfl (fun KK hK => ?_) AllReadyH.nil
        go_simp
        refine (raw_any w.heap.size P hNP _ [b, t, f] (by have := HL.out; have := numB_len a; rw [List.length_append]; omega) (by simp) (by simp) _ 3 _ HW.out.size HWS.out HNB.out).mono ?_
        rintro e w7 ⟨rfl, hws, hkp⟩
        clear HNB HNR
        replace HB := Lib.hid (hkp.blk _ _ _ HB.out (by decide) (by decide))
        replace HW := Lib.hid (HW.out.trans hkp.bel)
        replace HWS := Lib.hid hws
        clear hws hkp
        go_wp2_with fail
        refine hK.out _ _ ⟨HB.out.cell 3 rfl, HB.out.cell 4 rfl, HB.out.cell 5 rfl, HB.out.cell 8 rfl⟩ (fun hHeld => ?_)
        clear hK; try clear KK
        try simp only [Act.put, List.setIfInBounds_toArray, List.set_cons_zero, List.set_cons_succ]
        refine wpAnyH_done (by kernel_rfl) ?_ _
        have HL2 := Lib.hid (show (l ++ numB a ++ [b, t, f]).length ≤ 40 by have := HL.out; have := numB_len a; rw [List.length_append, List.length_append]; simp; omega)
        have HL20 := Lib.hid (show 0 < (l ++ numB a ++ [b, t, f]).length by simp; omega)
        have HLE2 := Lib.hid (show l ++ numB a ++ [b, t, f] = [1, s] ++ numB i ++ numB a ++ [b, t, f] by rw [HLE.out])
        clear HL HL0 HLE
        generalize l ++ numB a ++ [b, t, f] = l at HWS HL2 HL20 HLE2
        have HL := HL2
        have HL0 := HL20
        clear HL2 HL20
        have HF1 := Lib.hid (show formC ⟨((1 : Nat) : Int), s, i, a, b, t, p, q, f⟩ = l ++ beB 8 (zig p) ++ beB 8 (zig q) by rw [HLE2.out]; simp [formC])
        have c0 : w7.cell? ⟨w.heap.size, 0, none⟩ = some (.int .i64 ((1 : Nat) : Int)) := HB.out.cell 0 rfl
        go_wp2_with fail
        replace HB := Lib.hid (show Blk w7.drew w.heap.size _ 128 from HB.out)
        replace HW := Lib.hid (show Below w.heap.size w w7.drew from HW.out.drew)
        replace HWS := Lib.hid (show WS w.heap.size P l w7.drew from HWS.out)
        refine wp_region_held_drew (S := (fun w' => w'.cell? ⟨w.heap.size, 6, none⟩ = some (.int .i64 p) ∧ w'.cell? ⟨w.heap.size, 7, none⟩ = some (.int .i64 q))) (by kernel_rfl) ⟨HB.out.cell 6 rfl, HB.out.cell 7 rfl⟩ (fun hHeld => ?_)
        generalize w7.drew = wd at HB HW HWS hHeld ⊢
        refine wpAnyH_take (i := 0) (oi := ⟨some 45, _, _, _, _, _⟩) (v := (.pointer (some ⟨P, 0, none⟩))) rfl (by kernel_rfl) (by kernel_rfl) (by kernel_rfl) (fun _ _ _ h => h) (Or.inl ⟨by rfl, fun w hSw => by (try dsimp only at hSw); go_simp⟩) (by assumption) ?_
        simp only [Act.put, List.setIfInBounds_toArray, List.set_cons_zero, List.set_cons_succ]
        refine wpAnyH_take (i := 1) (oi := ⟨some 46, _, _, _, _, _⟩) (v := (.pointer (some ⟨w.heap.size, 6, none⟩))) rfl (by kernel_rfl) (by kernel_rfl) (by kernel_rfl) (fun _ _ _ h => h) (Or.inl ⟨by rfl, fun w hSw => by (try dsimp only at hSw); go_simp⟩) (by assumption) ?_
        simp only [Act.put, List.setIfInBounds_toArray, List.set_cons_zero, List.set_cons_succ]
        refine wpAnyH_take (i := 2) (oi := ⟨some 47, _, _, _, _, _⟩) (v := (.int .i64 p)) rfl (by kernel_rfl) (by kernel_rfl) (by kernel_rfl) (fun _ _ _ h => h) (Or.inl ⟨by rfl, fun w hSw => by (try dsimp only at hSw); go_simp⟩) (by assumption) ?_
        simp only [Act.put, List.setIfInBounds_toArray, List.set_cons_zero, List.set_cons_succ]
        refine wpAnyH_take (i := 4) (oi := ⟨some 49, _, _, _, _, _⟩) (v := (.pointer (some ⟨w.heap.size, 7, none⟩))) rfl (by kernel_rfl) (by kernel_rfl) (by kernel_rfl) (fun _ _ _ h => h) (Or.inl ⟨by rfl, fun w hSw => by (try dsimp only at hSw); go_simp⟩) (by assumption) ?_
        simp only [Act.put, List.setIfInBounds_toArray, List.set_cons_zero, List.set_cons_succ]
        refine wpAnyH_take (i := 5) (oi := ⟨some 50, _, _, _, _, _⟩) (v := (.int .i64 q)) rfl (by kernel_rfl) (by kernel_rfl) (by kernel_rfl) (fun _ _ _ h => h) (Or.inl ⟨by rfl, fun w hSw => by (try dsimp only at hSw); go_simp⟩) (by assumption) ?_
        simp only [Act.put, List.setIfInBounds_toArray, List.set_cons_zero, List.set_cons_succ]
        refine wpAnyH_ready (rs := [3]) (by kernel_rfl) (by simp) ?_
        refine AllReadyH.cons (o := ⟨some 48, _, _, _, _, _⟩) rfl (fun KK hK => ?_) AllReadyH.nil
        go_simp
        refine (int_any w.heap.size P hNP l (by have := HL.out; omega) p hp0 hp1 _ HW.out.size HWS.out).mono ?_
        rintro e w5 ⟨rfl, hws, hkp⟩
        replace HB := Lib.hid (hkp.blk _ _ _ HB.out (by decide) (by decide))
        replace HW := Lib.hid (HW.out.trans hkp.bel)
        replace HWS := Lib.hid hws
        clear hws hkp
        go_wp2_with fail
        refine hK.out _ _ ⟨HB.out.cell 6 rfl, HB.out.cell 7 rfl⟩ (fun hHeld => ?_)
        clear hK; try clear KK
        try simp only [Act.put, List.setIfInBounds_toArray, List.set_cons_zero, List.set_cons_succ]
        refine wpAnyH_ready (rs := [6]) (by kernel_rfl) (by simp) ?_
        refine AllReadyH.cons (o := ⟨some 51, _, _, _, _, _⟩) rfl (fun KK hK => ?_) AllReadyH.nil
        go_simp
        refine (int_any w.heap.size P hNP _ (by have := HL.out; have := beB_len 8 (zig p); rw [List.length_append]; omega) q hq0 hq1 _ HW.out.size HWS.out).mono ?_
        rintro e w6 ⟨rfl, hws, hkp⟩
        replace HB := Lib.hid (hkp.blk _ _ _ HB.out (by decide) (by decide))
        replace HW := Lib.hid (HW.out.trans hkp.bel)
        replace HWS := Lib.hid hws
        clear hws hkp
        go_wp2_with fail
        refine hK.out _ _ ⟨HB.out.cell 6 rfl, HB.out.cell 7 rfl⟩ (fun hHeld => ?_)
        clear hK; try clear KK
        try simp only [Act.put, List.setIfInBounds_toArray, List.set_cons_zero, List.set_cons_succ]
        refine wpAnyH_done (by kernel_rfl) ?_ _
        have HL2 := Lib.hid (show (l ++ beB 8 (zig p) ++ beB 8 (zig q)).length ≤ 100 by have := HL.out; have := beB_len 8 (zig p); have := beB_len 8 (zig q); rw [List.length_append, List.length_append]; omega)
        have HL3 := Lib.hid (show 0 < (l ++ beB 8 (zig p) ++ beB 8 (zig q)).length by have := HL0.out; rw [List.length_append, List.length_append]; omega)
        rw [← HF1.out] at HWS HL2 HL3
        go_wp2_with fail
        refine (bytes_any w.heap.size P _ HL3.out (by have := HL2.out; omega) _ HWS.out).mono ?_
        rintro e w9 ⟨v, rfl, hv, hb⟩
        go_wp2_with fail
        go_ret2
        exact .inl ⟨HF.out, _, rfl, own_mono hv HW.out.size, HW.out.trans (hb.mono HW.out.size)⟩
    · have g1 : ((k : Int) == 1) = false := by simp; omega
      by_cases hk2 : k = 2
      · subst hk2
        have HF1 := Lib.hid (show formC ⟨((2 : Nat) : Int), s, i, a, b, t, p, q, f⟩ = l by rw [HLE.out]; simp [formC])
        clear h1 hk hk1
        go_wp2_with fail
        refine (bytes_any w.heap.size P l HL0.out (by have := HL.out; omega) _ HWS.out).mono ?_
        rintro e w9 ⟨v, rfl, hv, hb⟩
        go_wp2_with fail
        go_ret2
        exact .inl ⟨HF.out, _, rfl, by rw [HF1.out]; exact own_mono hv HW.out.size, HW.out.trans (hb.mono HW.out.size)⟩
      · have g2 : ((k : Int) != 2) = true := by simp; omega
        have h1' : ¬ (k : Int) = 1 := by omega
        have h2' : ¬ (k : Int) = 2 := by omega
        have HF1 := Lib.hid (show formC ⟨(k : Int), s, i, a, b, t, p, q, f⟩ = l ++ beB 8 (zig p) ++ beB 8 (zig q) by rw [HLE.out]; simp [formC, h1', h2'])
        clear h1' h2'
        clear h1 hk hk1 hk2
        replace HL := Lib.hid (show l.length ≤ 40 by have := HL.out; omega)
        go_wp2_with fail
        replace HB := Lib.hid (show Blk w3.drew w.heap.size _ 128 from HB.out)
        replace HW := Lib.hid (show Below w.heap.size w w3.drew from HW.out.drew)
        replace HWS := Lib.hid (show WS w.heap.size P l w3.drew from HWS.out)
        refine wp_region_held_drew (S := (fun w' => w'.cell? ⟨w.heap.size, 6, none⟩ = some (.int .i64 p) ∧ w'.cell? ⟨w.heap.size, 7, none⟩ = some (.int .i64 q))) (by kernel_rfl) ⟨HB.out.cell 6 rfl, HB.out.cell 7 rfl⟩ (fun hHeld => ?_)
        generalize w3.drew = wd at HB HW HWS hHeld ⊢
        refine wpAnyH_take (i := 0) (oi := ⟨some 45, _, _, _, _, _⟩) (v := (.pointer (some ⟨P, 0, none⟩))) rfl (by kernel_rfl) (by kernel_rfl) (by kernel_rfl) (fun _ _ _ h => h) (Or.inl ⟨by rfl, fun w hSw => by (try dsimp only at hSw); go_simp⟩) (by assumption) ?_
        simp only [Act.put, List.setIfInBounds_toArray, List.set_cons_zero, List.set_cons_succ]
        refine wpAnyH_take (i := 1) (oi := ⟨some 46, _, _, _, _, _⟩) (v := (.pointer (some ⟨w.heap.size, 6, none⟩))) rfl (by kernel_rfl) (by kernel_rfl) (by kernel_rfl) (fun _ _ _ h => h) (Or.inl ⟨by rfl, fun w hSw => by (try dsimp only at hSw); go_simp⟩) (by assumption) ?_
        simp only [Act.put, List.setIfInBounds_toArray, List.set_cons_zero, List.set_cons_succ]
        refine wpAnyH_take (i := 2) (oi := ⟨some 47, _, _, _, _, _⟩) (v := (.int .i64 p)) rfl (by kernel_rfl) (by kernel_rfl) (by kernel_rfl) (fun _ _ _ h => h) (Or.inl ⟨by rfl, fun w hSw => by (try dsimp only at hSw); go_simp⟩) (by assumption) ?_
        simp only [Act.put, List.setIfInBounds_toArray, List.set_cons_zero, List.set_cons_succ]
        refine wpAnyH_take (i := 4) (oi := ⟨some 49, _, _, _, _, _⟩) (v := (.pointer (some ⟨w.heap.size, 7, none⟩))) rfl (by kernel_rfl) (by kernel_rfl) (by kernel_rfl) (fun _ _ _ h => h) (Or.inl ⟨by rfl, fun w hSw => by (try dsimp only at hSw); go_simp⟩) (by assumption) ?_
        simp only [Act.put, List.setIfInBounds_toArray, List.set_cons_zero, List.set_cons_succ]
        refine wpAnyH_take (i := 5) (oi := ⟨some 50, _, _, _, _, _⟩) (v := (.int .i64 q)) rfl (by kernel_rfl) (by kernel_rfl) (by kernel_rfl) (fun _ _ _ h => h) (Or.inl ⟨by rfl, fun w hSw => by (try dsimp only at hSw); go_simp⟩) (by assumption) ?_
        simp only [Act.put, List.setIfInBounds_toArray, List.set_cons_zero, List.set_cons_succ]
        refine wpAnyH_ready (rs := [3]) (by kernel_rfl) (by simp) ?_
        refine AllReadyH.cons (o := ⟨some 48, _, _, _, _, _⟩) rfl (fun KK hK => ?_) AllReadyH.nil
        go_simp
        refine (int_any w.heap.size P hNP l (by have := HL.out; omega) p hp0 hp1 _ HW.out.size HWS.out).mono ?_
        rintro e w5 ⟨rfl, hws, hkp⟩
        replace HB := Lib.hid (hkp.blk _ _ _ HB.out (by decide) (by decide))
        replace HW := Lib.hid (HW.out.trans hkp.bel)
        replace HWS := Lib.hid hws
        clear hws hkp
        go_wp2_with fail
        refine hK.out _ _ ⟨HB.out.cell 6 rfl, HB.out.cell 7 rfl⟩ (fun hHeld => ?_)
        clear hK; try clear KK
        try simp only [Act.put, List.setIfInBounds_toArray, List.set_cons_zero, List.set_cons_succ]
        refine wpAnyH_ready (rs := [6]) (by kernel_rfl) (by simp) ?_
        refine AllReadyH.cons (o := ⟨some 51, _, _, _, _, _⟩) rfl (fun KK hK => ?_) AllReadyH.nil
        go_simp
        refine (int_any w.heap.size P hNP _ (by have := HL.out; have := beB_len 8 (zig p); rw [List.length_append]; omega) q hq0 hq1 _ HW.out.size HWS.out).mono ?_
        rintro e w6 ⟨rfl, hws, hkp⟩
        replace HB := Lib.hid (hkp.blk _ _ _ HB.out (by decide) (by decide))
        replace HW := Lib.hid (HW.out.trans hkp.bel)
        replace HWS := Lib.hid hws
        clear hws hkp
        go_wp2_with fail
        refine hK.out _ _ ⟨HB.out.cell 6 rfl, HB.out.cell 7 rfl⟩ (fun hHeld => ?_)
        clear hK; try clear KK
        try simp only [Act.put, List.setIfInBounds_toArray, List.set_cons_zero, List.set_cons_succ]
        refine wpAnyH_done (by kernel_rfl) ?_ _
        have HL2 := Lib.hid (show (l ++ beB 8 (zig p) ++ beB 8 (zig q)).length ≤ 100 by have := HL.out; have := beB_len 8 (zig p); have := beB_len 8 (zig q); rw [List.length_append, List.length_append]; omega)
        have HL3 := Lib.hid (show 0 < (l ++ beB 8 (zig p) ++ beB 8 (zig q)).length by have := HL0.out; rw [List.length_append, List.length_append]; omega)
        rw [← HF1.out] at HWS HL2 HL3
        go_wp2_with fail
        refine (bytes_any w.heap.size P _ HL3.out (by have := HL2.out; omega) _ HWS.out).mono ?_
        rintro e w9 ⟨v, rfl, hv, hb⟩
        go_wp2_with fail
        go_ret2
        exact .inl ⟨HF.out, _, rfl, own_mono hv HW.out.size, HW.out.trans (hb.mono HW.out.size)⟩
end Go.Proofs.Ytogjgpiddjmpiaa.Cmds

/- damperref05.Right. -/
namespace Go.Proofs.Ytogjgpiddjmpiaa.Cmds
set_option linter.unusedVariables false
open Go.RowKit Go.Proofs.Ytogjgpiddjmpiaa.Kit Go.Proofs.Ytogjgpiddjmpiaa.Blk Go.Proofs.Ytogjgpiddjmpiaa.Octets
attribute [local go_sem ↓] Go.wp_at_zero Go.wp_at_succ

set_option maxRecDepth 20000 in
set_option maxHeartbeats 4000000 in
theorem rright_one (c : Cmd) (w : World) (hc : c.k = 1 ∨ inB c.s 0 255 = false ∨ inB c.i 0 4611686018427387904 = false) : Calls Try.prog 147 #[.agg c.cells] w fun e w' => e = .returned (.bool (rightC c)) ∧ Below w.heap.size w w' := by
  obtain ⟨k, s, i, a, b, t, p, q, f⟩ := c
  have HB := Lib.hid (show Below w.heap.size w (w.alloc (.cells (Cmd.cells ⟨k, s, i, a, b, t, p, q, f⟩) 128)) from (Below.refl _ _).alloc (Nat.le_refl _) _)
  unfold Cmd.cells at *
  dsimp only at hc
  cases h1 : inB s 0 255 with
  | false =>
    clear hc
    have HS := Lib.hid (show rightC ⟨k, s, i, a, b, t, p, q, f⟩ = false by simp [rightC, h1])
    go_enter Try.func147, Try.ntmps147
    go_wp2_with (go_at_call 186; refine (rin_any _ _ _ _).mono ?_; rintro e w1 ⟨rfl, rfl⟩)
    go_ret
    exact ⟨ret_bool HS.out.symm, HB.out⟩
  | true =>
    cases h2 : inB i 0 4611686018427387904 with
    | false =>
      have HS := Lib.hid (show rightC ⟨k, s, i, a, b, t, p, q, f⟩ = false by simp [rightC, h2])
      clear hc
      go_enter Try.func147, Try.ntmps147
      go_wp2_with (go_at_call 186; refine (rin_any _ _ _ _).mono ?_; rintro e w1 ⟨rfl, rfl⟩)
      go_ret
      exact ⟨ret_bool HS.out.symm, HB.out⟩
    | true =>
      · obtain rfl : k = 1 := by simpa [h1, h2] using hc
        clear hc
        cases h3 : inB a 0 1073741824 with
        | false =>
          have HS := Lib.hid (show rightC ⟨1, s, i, a, b, t, p, q, f⟩ = false by simp [rightC, h1, h2, h3])
          go_enter Try.func147, Try.ntmps147
          go_wp2_with (go_at_call 186; refine (rin_any _ _ _ _).mono ?_; rintro e w1 ⟨rfl, rfl⟩)
          go_ret
          exact ⟨ret_bool HS.out.symm, HB.out⟩
        | true =>
          cases h4 : inB b 0 1 with
          | false =>
            have HS := Lib.hid (show rightC ⟨1, s, i, a, b, t, p, q, f⟩ = false by simp [rightC, h1, h2, h3, h4])
            go_enter Try.func147, Try.ntmps147
            go_wp2_with (go_at_call 186; refine (rin_any _ _ _ _).mono ?_; rintro e w1 ⟨rfl, rfl⟩)
            go_ret
            exact ⟨ret_bool HS.out.symm, HB.out⟩
          | true =>
            cases h5 : inB t 1 5 with
            | false =>
              have HS := Lib.hid (show rightC ⟨1, s, i, a, b, t, p, q, f⟩ = false by simp [rightC, h1, h2, h3, h4, h5])
              go_enter Try.func147, Try.ntmps147
              go_wp2_with (go_at_call 186; refine (rin_any _ _ _ _).mono ?_; rintro e w1 ⟨rfl, rfl⟩)
              go_ret
              exact ⟨ret_bool HS.out.symm, HB.out⟩
            | true =>
              cases h6 : inB f 0 7 with
              | false =>
                have HS := Lib.hid (show rightC ⟨1, s, i, a, b, t, p, q, f⟩ = false by simp [rightC, h1, h2, h3, h4, h5, h6])
                go_enter Try.func147, Try.ntmps147
                go_wp2_with (go_at_call 186; refine (rin_any _ _ _ _).mono ?_; rintro e w1 ⟨rfl, rfl⟩)
                go_ret
                exact ⟨ret_bool HS.out.symm, HB.out⟩
              | true =>
                have HS := Lib.hid (show rightC ⟨1, s, i, a, b, t, p, q, f⟩ = true by simp [rightC, h1, h2, h3, h4, h5, h6])
                go_enter Try.func147, Try.ntmps147
                go_wp2_with (go_at_call 186; refine (rin_any _ _ _ _).mono ?_; rintro e w1 ⟨rfl, rfl⟩)
                go_ret
                exact ⟨ret_bool HS.out.symm, HB.out⟩
set_option maxRecDepth 20000 in
set_option maxHeartbeats 4000000 in
theorem rright_any (c : Cmd) (w : World) : Calls Try.prog 147 #[.agg c.cells] w fun e w' => e = .returned (.bool (rightC c)) ∧ Below w.heap.size w w' := by
  by_cases hc : c.k = 1 ∨ inB c.s 0 255 = false ∨ inB c.i 0 4611686018427387904 = false
  · exact rright_one c w hc
  obtain ⟨k, s, i, a, b, t, p, q, f⟩ := c
  have HB := Lib.hid (show Below w.heap.size w (w.alloc (.cells (Cmd.cells ⟨k, s, i, a, b, t, p, q, f⟩) 128)) from (Below.refl _ _).alloc (Nat.le_refl _) _)
  unfold Cmd.cells at *
  dsimp only at hc
  have hk1 : ¬ k = 1 := fun h => hc (.inl h)
  have h1 : inB s 0 255 = true := by
    cases h : inB s 0 255 with
    | true => rfl
    | false => exact absurd (.inr (.inl h)) hc
  have h2 : inB i 0 4611686018427387904 = true := by
    cases h : inB i 0 4611686018427387904 with
    | true => rfl
    | false => exact absurd (.inr (.inr h)) hc
  have b1 : (k == 1) = false := by simpa using hk1
  clear hc
  by_cases hk3 : k = 3
  · subst hk3
    have HS := Lib.hid (show rightC ⟨3, s, i, a, b, t, p, q, f⟩ = (a == 0 && (b == 0 && (t == 0 && f == 0))) by simp [rightC, h1, h2])
    clear hk1
    go_enter Try.func147, Try.ntmps147
    go_wp2_with (go_at_call 186; refine (rin_any _ _ _ _).mono ?_; rintro e w1 ⟨rfl, rfl⟩)
    all_goals (subst_vars; go_ret; exact ⟨ret_bool (by rw [HS.out]; try simp [*]), HB.out⟩)
  · have b3 : (k == 3) = false := by simpa using hk3
    by_cases hk2 : k = 2
    · subst hk2
      have HS := Lib.hid (show rightC ⟨2, s, i, a, b, t, p, q, f⟩ = (a == 0 && (b == 0 && (t == 0 && (p == 0 && (q == 0 && f == 0))))) by simp [rightC, h1, h2])
      clear hk1 hk3
      go_enter Try.func147, Try.ntmps147
      go_wp2_with (go_at_call 186; refine (rin_any _ _ _ _).mono ?_; rintro e w1 ⟨rfl, rfl⟩)
      all_goals (subst_vars; go_ret; exact ⟨ret_bool (by rw [HS.out]; try simp [*]), HB.out⟩)
    · have b2 : (k == 2) = false := by simpa using hk2
      have HS := Lib.hid (show rightC ⟨k, s, i, a, b, t, p, q, f⟩ = false by simp [rightC, h1, h2, hk1, hk2, hk3])
      clear hk1 hk3 hk2
      go_enter Try.func147, Try.ntmps147
      go_wp2_with (go_at_call 186; refine (rin_any _ _ _ _).mono ?_; rintro e w1 ⟨rfl, rfl⟩)
      all_goals (subst_vars; go_ret; exact ⟨ret_bool (by rw [HS.out]; try simp [*]), HB.out⟩)
end Go.Proofs.Ytogjgpiddjmpiaa.Cmds

/- damperref05: form, Encode. -/
namespace Go.Proofs.Ytogjgpiddjmpiaa.Cmds
set_option linter.unusedVariables false
open Go.RowKit Go.Proofs.Ytogjgpiddjmpiaa.Kit Go.Proofs.Ytogjgpiddjmpiaa.Blk Go.Proofs.Ytogjgpiddjmpiaa.Octets
attribute [local go_sem ↓] Go.wp_at_zero Go.wp_at_succ

theorem own_below {N : Nat} {l : List Nat} {v : Value} {W W' : World} (h : Own N l v W) (hb : Below W.heap.size W W') : Own N l v W' :=
  h.kept (row := none) ⟨hb.os, hb.tape, hb.output, hb.size, fun k hk _ => hb.block k hk⟩ (by
    cases hv : v.ownBlock with
    | none => exact .inl rfl
    | some j => exact .inr (by simp))
theorem numB_pos (n : Nat) : 0 < (numB n).length := by
  unfold numB
  cases 10 with
  | zero => simp [numG]
  | succ f => unfold numG; split <;> simp

set_option maxRecDepth 20000 in
set_option maxHeartbeats 4000000 in
theorem form_any (c : Cmd) (w : World) (hr : rightC c = true) (hp0 : -9223372036854775808 ≤ c.p) (hp1 : c.p ≤ 9223372036854775807) (hq0 : -9223372036854775808 ≤ c.q) (hq1 : c.q ≤ 9223372036854775807) :
    Calls Try.prog 148 #[.agg c.cells] w fun e w' => BytesIs (formC c) w e w' := by
  obtain ⟨i0, hi0, hz0, hz1, hz2⟩ := info_parts infoU8
  have HB := Lib.hid (Blk.new w c.cells 128 w.heap.size rfl)
  have HW := Lib.hid (show Below w.heap.size w (w.alloc (.cells c.cells 128)) from (Below.refl _ _).alloc (Nat.le_refl _) _)
  have hin := right_in hr
  obtain ⟨k, s, i, a, b, t, p, q, f⟩ := c
  dsimp only at hin hp0 hp1 hq0 hq1
  obtain ⟨hk, ⟨hs0, hs1⟩, ⟨hi0', hi1'⟩, h1⟩ := hin
  obtain ⟨k, rfl⟩ : ∃ n : Nat, k = n := ⟨k.toNat, by omega⟩
  obtain ⟨s, rfl⟩ : ∃ n : Nat, s = n := ⟨s.toNat, by omega⟩
  obtain ⟨i, rfl⟩ : ∃ n : Nat, i = n := ⟨i.toNat, by omega⟩
  have hkb : (k : Int) % 256 = (k : Int) := by omega
  have hsb : (s : Int) % 256 = (s : Int) := by omega
  have hib : (i : Int) % 18446744073709551616 = (i : Int) := by omega
  clear hr
  unfold Cmd.cells at *
  have HCN := Lib.hid (refnum_any i (by omega))
  have HMP := Lib.hid (numB_pos i)
  have HML := Lib.hid (numB_len i)
  have HIE := Lib.hid (show formC ⟨k, s, i, a, b, t, p, q, f⟩ = [k, s] ++ numB i ++ (if (k : Int) = 1 then numB a.toNat ++ [b.toNat, t.toNat, f.toNat] else []) ++ (if (k : Int) = 2 then [] else beB 8 (zig p) ++ beB 8 (zig q)) by simp [formC])
  generalize numB i = m at HCN HMP HML HIE
  have HV := Lib.hid (show Own w.heap.size [k, s] (.slice (some ⟨w.heap.size + 1, 0, none⟩) 2 2) ((w.alloc (.cells #[.int .i64 k, .int .i64 s, .int .i64 i, .int .i64 a, .int .i64 b, .int .i64 t, .int .i64 p, .int .i64 q, .int .i64 f] 128)).alloc (.cells #[.int .u8 (k : Int), .int .u8 (s : Int)] 5)) from ⟨rfl, .inr ⟨_, 2, #[.int .u8 (k : Int), .int .u8 (s : Int)], rfl, by omega, Blk.new _ #[.int .u8 (k : Int), .int .u8 (s : Int)] 5 (w.heap.size + 1) (by simp), Nat.le_refl _, by decide, rfl, rfl⟩⟩)
  go_enter Try.func148, Try.ntmps148
  go_wp2_with (go_at_call 187; fail)
  replace HB := Lib.hid (HB.out.old (.cells #[.int .u8 (k : Int), .int .u8 (s : Int)] 5))
  replace HW := Lib.hid (HW.out.alloc (by simp) (.cells #[.int .u8 (k : Int), .int .u8 (s : Int)] 5))
  refine (HCN.out _).mono ?_
  rintro e w2 ⟨u, rfl, hu, hb⟩
  obtain ⟨gu, cu, rfl, -, -⟩ := World.ownsRow.form hu (show 0 < List.length m from HMP.out)
  have HUN := Lib.hid (World.ownsRow.cells hu rfl)
  replace HV := Lib.hid (own_below HV.out hb)
  replace HB := Lib.hid (HB.out.below hb HB.out.lt)
  replace HW := Lib.hid (HW.out.trans (hb.mono HW.out.size))
  clear hu hb
  have HL := Lib.hid (show ([k, s] : List Nat).length ≤ 2 by simp)
  have HIE2 := Lib.hid (show ([k, s] ++ m).length ≤ 13 by have := HML.out; simp; omega)
  generalize [k, s] = l at HV HIE HL HIE2
  by_cases hk1 : k = 1
  · subst hk1
    obtain ⟨⟨ha0, ha1⟩, ⟨hb0, hb1⟩, ⟨ht0, ht1⟩, hf0, hf1⟩ := h1 rfl
    obtain ⟨a, rfl⟩ : ∃ n : Nat, a = n := ⟨a.toNat, by omega⟩
    obtain ⟨b, rfl⟩ : ∃ n : Nat, b = n := ⟨b.toNat, by omega⟩
    obtain ⟨t, rfl⟩ : ∃ n : Nat, t = n := ⟨t.toNat, by omega⟩
    obtain ⟨f, rfl⟩ : ∃ n : Nat, f = n := ⟨f.toNat, by omega⟩
    have hab : (a : Int) % 18446744073709551616 = (a : Int) := by omega
    have hbb : (b : Int) % 256 = (b : Int) := by omega
    have htb : (t : Int) % 256 = (t : Int) := by omega
    have hfb : (f : Int) % 256 = (f : Int) := by omega
    have HCA := Lib.hid (refnum_any a (by omega))
    have HAP := Lib.hid (numB_pos a)
    have HAL := Lib.hid (numB_len a)
    replace HIE := Lib.hid (show formC ⟨((1 : Nat) : Int), s, i, a, b, t, p, q, f⟩ = l ++ m ++ numB a ++ [b, t, f] ++ beB 8 (zig p) ++ beB 8 (zig q) by rw [HIE.out]; simp)
    generalize numB a = ma at HCA HAP HAL HIE
    clear h1 hk
    go_wp2_with
    (at_builtin; refine wpList_append_lies _ (by rfl) _ _ _ (by rfl) w.heap.size 5 i0 (.int .u8 0) 1 1 Try.underlying121 hi0 hz0 hz1 hz2 (by rfl) (by decide) _ (List.length l) (vals l) (by rfl) HV.out ⟨gu, 0, none⟩ (List.length m) cu (vals m) (by rfl) (by rw [vals_len, Nat.mul_one]) HUN.out (one_vals m) HMP.out (by unfold maxLen; have := And.intro HL.out HML.out; omega) (by have := And.intro HL.out HML.out; omega) HW.out.size _ rfl ?_; intro ga ca w3 hown hgrow hat hlt5; replace HB := Lib.hid (blk_row' HB.out (by decide) HV.out hgrow); have HPU := Lib.hid (own_push (m := m) HW.out HW.out.size HV.out (Below.refl _ _) hown hgrow); replace HV := Lib.hid HPU.out.1; replace HW := Lib.hid HPU.out.2; clear hown hgrow hat hlt5 HPU HUN; have a0 : w3.cell? ⟨w.heap.size, 0, none⟩ = some (.int .i64 _) := HB.out.cell 0 rfl; have a3 : w3.cell? ⟨w.heap.size, 3, none⟩ = some (.int .i64 _) := HB.out.cell 3 rfl; have a4 : w3.cell? ⟨w.heap.size, 4, none⟩ = some (.int .i64 _) := HB.out.cell 4 rfl; have a5 : w3.cell? ⟨w.heap.size, 5, none⟩ = some (.int .i64 _) := HB.out.cell 5 rfl; have a6 : w3.cell? ⟨w.heap.size, 6, none⟩ = some (.int .i64 _) := HB.out.cell 6 rfl; have a7 : w3.cell? ⟨w.heap.size, 7, none⟩ = some (.int .i64 _) := HB.out.cell 7 rfl; have a8 : w3.cell? ⟨w.heap.size, 8, none⟩ = some (.int .i64 _) := HB.out.cell 8 rfl)
    refine (HCA.out _).mono ?_
    rintro e w4 ⟨u, rfl, hu, hb⟩
    clear a0 a3 a4 a5 a6 a7 a8
    replace HL := Lib.hid (show (l ++ m).length ≤ 13 from HIE2.out)
    clear HIE2 HMP HML HCN
    generalize l ++ m = l at HV HIE HL
    obtain ⟨gu, cu, rfl, -, -⟩ := World.ownsRow.form hu (show 0 < List.length ma from HAP.out)
    have HUN := Lib.hid (World.ownsRow.cells hu rfl)
    replace HV := Lib.hid (own_below HV.out hb)
    replace HB := Lib.hid (HB.out.below hb HB.out.lt)
    replace HW := Lib.hid (HW.out.trans (hb.mono HW.out.size))
    clear hu hb
    have a0 : w4.cell? ⟨w.heap.size, 0, none⟩ = some (.int .i64 _) := HB.out.cell 0 rfl
    have a3 : w4.cell? ⟨w.heap.size, 3, none⟩ = some (.int .i64 _) := HB.out.cell 3 rfl
    have a4 : w4.cell? ⟨w.heap.size, 4, none⟩ = some (.int .i64 _) := HB.out.cell 4 rfl
    have a5 : w4.cell? ⟨w.heap.size, 5, none⟩ = some (.int .i64 _) := HB.out.cell 5 rfl
    have a6 : w4.cell? ⟨w.heap.size, 6, none⟩ = some (.int .i64 _) := HB.out.cell 6 rfl
    have a7 : w4.cell? ⟨w.heap.size, 7, none⟩ = some (.int .i64 _) := HB.out.cell 7 rfl
    have a8 : w4.cell? ⟨w.heap.size, 8, none⟩ = some (.int .i64 _) := HB.out.cell 8 rfl
    have HLA := Lib.hid (show (l ++ ma).length ≤ 24 by have := HL.out; have := HAL.out; rw [List.length_append]; omega)
    go_wp2_with (first
    |
    (at_builtin; refine wpList_append_lies _ (by rfl) _ _ _ (by rfl) w.heap.size 5 i0 (.int .u8 0) 1 1 Try.underlying121 hi0 hz0 hz1 hz2 (by rfl) (by decide) _ (List.length l) (vals l) (by rfl) HV.out ⟨gu, 0, none⟩ (List.length ma) cu (vals ma) (by rfl) (by rw [vals_len, Nat.mul_one]) HUN.out (one_vals ma) HAP.out (by unfold maxLen; have := And.intro HL.out HAL.out; omega) (by have := And.intro HL.out HAL.out; omega) HW.out.size _ rfl ?_; intro ga ca w5 hown hgrow hat hlt5; replace HB := Lib.hid (blk_row' HB.out (by decide) HV.out hgrow); have HPU := Lib.hid (own_push (m := ma) HW.out HW.out.size HV.out (Below.refl _ _) hown hgrow); replace HV := Lib.hid HPU.out.1; replace HW := Lib.hid HPU.out.2; clear hown hgrow hat hlt5 HPU HUN; have a0 : w5.cell? ⟨w.heap.size, 0, none⟩ = some (.int .i64 _) := HB.out.cell 0 rfl; have a3 : w5.cell? ⟨w.heap.size, 3, none⟩ = some (.int .i64 _) := HB.out.cell 3 rfl; have a4 : w5.cell? ⟨w.heap.size, 4, none⟩ = some (.int .i64 _) := HB.out.cell 4 rfl; have a5 : w5.cell? ⟨w.heap.size, 5, none⟩ = some (.int .i64 _) := HB.out.cell 5 rfl; have a6 : w5.cell? ⟨w.heap.size, 6, none⟩ = some (.int .i64 _) := HB.out.cell 6 rfl; have a7 : w5.cell? ⟨w.heap.size, 7, none⟩ = some (.int .i64 _) := HB.out.cell 7 rfl; have a8 : w5.cell? ⟨w.heap.size, 8, none⟩ = some (.int .i64 _) := HB.out.cell 8 rfl)
    |
    (at_builtin; refine wpList_append_lies _ (by rfl) _ _ _ (by rfl) w.heap.size 5 i0 (.int .u8 0) 1 1 Try.underlying121 hi0 hz0 hz1 hz2 (by rfl) (by decide) _ (List.length (l ++ ma)) (vals (l ++ ma)) (by rfl) (World.ownsRow.alloc HV.out (.cells #[.int .u8 (b : Int), .int .u8 (t : Int), .int .u8 (f : Int)] 5)) ⟨w5.heap.size, 0, none⟩ 3 3 (vals [b, t, f]) (by rfl) (by rfl) (news_vals (Blk.new w5 #[.int .u8 (b : Int), .int .u8 (t : Int), .int .u8 (f : Int)] 5 w5.heap.size rfl)) (one_vals [b, t, f]) (by decide) (by unfold maxLen; have := HLA.out; omega) (by have := HLA.out; omega) (by have := HW.out.size; simp; omega) _ rfl ?_; intro ga ca w6 hown hgrow hat hlt5; replace HB := Lib.hid (blk_row' (HB.out.old (.cells #[.int .u8 (b : Int), .int .u8 (t : Int), .int .u8 (f : Int)] 5)) (by decide) (World.ownsRow.alloc HV.out (.cells #[.int .u8 (b : Int), .int .u8 (t : Int), .int .u8 (f : Int)] 5)) hgrow); have HPU := Lib.hid (own_push (m := [b, t, f]) HW.out HW.out.size HV.out ((Below.refl _ _).alloc (Nat.le_refl _) (.cells #[.int .u8 (b : Int), .int .u8 (t : Int), .int .u8 (f : Int)] 5)) hown hgrow); replace HV := Lib.hid HPU.out.1; replace HW := Lib.hid HPU.out.2; clear hown hgrow hat hlt5 HPU; have a0 : w6.cell? ⟨w.heap.size, 0, none⟩ = some (.int .i64 _) := HB.out.cell 0 rfl; have a3 : w6.cell? ⟨w.heap.size, 3, none⟩ = some (.int .i64 _) := HB.out.cell 3 rfl; have a4 : w6.cell? ⟨w.heap.size, 4, none⟩ = some (.int .i64 _) := HB.out.cell 4 rfl; have a5 : w6.cell? ⟨w.heap.size, 5, none⟩ = some (.int .i64 _) := HB.out.cell 5 rfl; have a6 : w6.cell? ⟨w.heap.size, 6, none⟩ = some (.int .i64 _) := HB.out.cell 6 rfl; have a7 : w6.cell? ⟨w.heap.size, 7, none⟩ = some (.int .i64 _) := HB.out.cell 7 rfl; have a8 : w6.cell? ⟨w.heap.size, 8, none⟩ = some (.int .i64 _) := HB.out.cell 8 rfl)
    )
    have HL2 := Lib.hid (show (l ++ ma ++ [b, t, f]).length ≤ 40 by have := HL.out; have := HAL.out; rw [List.length_append, List.length_append]; simp; omega)
    clear HL HLA
    have hv := HV.out
    simp only [List.length_append] at hv
    replace HV := Lib.hid hv
    clear hv
    generalize l ++ ma ++ [b, t, f] = l at HV HIE HL2
    have HL := HL2
    clear HL2
    have HP1 := Lib.hid (refint_any p hp0 hp1)
    have HQ1 := Lib.hid (refint_any q hq0 hq1)
    have HP8 := Lib.hid (beB_len 8 (zig p))
    have HQ8 := Lib.hid (beB_len 8 (zig q))
    generalize beB 8 (zig p) = mp at HP1 HP8 HIE
    generalize beB 8 (zig q) = mq at HQ1 HQ8 HIE
    have HLP := Lib.hid (show (l ++ mp).length ≤ 60 by have := HL.out; have := HP8.out; rw [List.length_append]; omega)
    refine (HP1.out _).mono ?_
    rintro e w6 ⟨u, rfl, hu, hb⟩
    clear a0 a3 a4 a5 a6 a7 a8
    obtain ⟨gu, cu, rfl, -, -⟩ := World.ownsRow.form hu (show 0 < List.length mp from (by have := HP8.out; omega))
    have HUN := Lib.hid (World.ownsRow.cells hu rfl)
    replace HV := Lib.hid (own_below HV.out hb)
    replace HB := Lib.hid (HB.out.below hb HB.out.lt)
    replace HW := Lib.hid (HW.out.trans (hb.mono HW.out.size))
    clear hu hb
    have a0 : w6.cell? ⟨w.heap.size, 0, none⟩ = some (.int .i64 _) := HB.out.cell 0 rfl
    have a3 : w6.cell? ⟨w.heap.size, 3, none⟩ = some (.int .i64 _) := HB.out.cell 3 rfl
    have a4 : w6.cell? ⟨w.heap.size, 4, none⟩ = some (.int .i64 _) := HB.out.cell 4 rfl
    have a5 : w6.cell? ⟨w.heap.size, 5, none⟩ = some (.int .i64 _) := HB.out.cell 5 rfl
    have a6 : w6.cell? ⟨w.heap.size, 6, none⟩ = some (.int .i64 _) := HB.out.cell 6 rfl
    have a7 : w6.cell? ⟨w.heap.size, 7, none⟩ = some (.int .i64 _) := HB.out.cell 7 rfl
    have a8 : w6.cell? ⟨w.heap.size, 8, none⟩ = some (.int .i64 _) := HB.out.cell 8 rfl
    go_wp2_with
    (at_builtin; refine wpList_append_lies _ (by rfl) _ _ _ (by rfl) w.heap.size 5 i0 (.int .u8 0) 1 1 Try.underlying121 hi0 hz0 hz1 hz2 (by rfl) (by decide) _ (List.length l) (vals l) (by rfl) HV.out ⟨gu, 0, none⟩ (List.length mp) cu (vals mp) (by rfl) (by rw [vals_len, Nat.mul_one]) HUN.out (one_vals mp) (by have := HP8.out; omega) (by unfold maxLen; have := And.intro HL.out HP8.out; omega) (by have := And.intro HL.out HP8.out; omega) HW.out.size _ rfl ?_; intro ga ca w7 hown hgrow hat hlt5; replace HB := Lib.hid (blk_row' HB.out (by decide) HV.out hgrow); have HPU := Lib.hid (own_push (m := mp) HW.out HW.out.size HV.out (Below.refl _ _) hown hgrow); replace HV := Lib.hid HPU.out.1; replace HW := Lib.hid HPU.out.2; clear hown hgrow hat hlt5 HPU HUN; have a0 : w7.cell? ⟨w.heap.size, 0, none⟩ = some (.int .i64 _) := HB.out.cell 0 rfl; have a3 : w7.cell? ⟨w.heap.size, 3, none⟩ = some (.int .i64 _) := HB.out.cell 3 rfl; have a4 : w7.cell? ⟨w.heap.size, 4, none⟩ = some (.int .i64 _) := HB.out.cell 4 rfl; have a5 : w7.cell? ⟨w.heap.size, 5, none⟩ = some (.int .i64 _) := HB.out.cell 5 rfl; have a6 : w7.cell? ⟨w.heap.size, 6, none⟩ = some (.int .i64 _) := HB.out.cell 6 rfl; have a7 : w7.cell? ⟨w.heap.size, 7, none⟩ = some (.int .i64 _) := HB.out.cell 7 rfl; have a8 : w7.cell? ⟨w.heap.size, 8, none⟩ = some (.int .i64 _) := HB.out.cell 8 rfl)
    refine (HQ1.out _).mono ?_
    rintro e w8 ⟨u, rfl, hu, hb⟩
    clear a0 a3 a4 a5 a6 a7 a8
    obtain ⟨gu, cu, rfl, -, -⟩ := World.ownsRow.form hu (show 0 < List.length mq from (by have := HQ8.out; omega))
    have HUN := Lib.hid (World.ownsRow.cells hu rfl)
    replace HV := Lib.hid (own_below HV.out hb)
    replace HB := Lib.hid (HB.out.below hb HB.out.lt)
    replace HW := Lib.hid (HW.out.trans (hb.mono HW.out.size))
    clear hu hb
    have a0 : w8.cell? ⟨w.heap.size, 0, none⟩ = some (.int .i64 _) := HB.out.cell 0 rfl
    have a3 : w8.cell? ⟨w.heap.size, 3, none⟩ = some (.int .i64 _) := HB.out.cell 3 rfl
    have a4 : w8.cell? ⟨w.heap.size, 4, none⟩ = some (.int .i64 _) := HB.out.cell 4 rfl
    have a5 : w8.cell? ⟨w.heap.size, 5, none⟩ = some (.int .i64 _) := HB.out.cell 5 rfl
    have a6 : w8.cell? ⟨w.heap.size, 6, none⟩ = some (.int .i64 _) := HB.out.cell 6 rfl
    have a7 : w8.cell? ⟨w.heap.size, 7, none⟩ = some (.int .i64 _) := HB.out.cell 7 rfl
    have a8 : w8.cell? ⟨w.heap.size, 8, none⟩ = some (.int .i64 _) := HB.out.cell 8 rfl
    go_wp2_with
    (at_builtin; refine wpList_append_lies _ (by rfl) _ _ _ (by rfl) w.heap.size 5 i0 (.int .u8 0) 1 1 Try.underlying121 hi0 hz0 hz1 hz2 (by rfl) (by decide) _ (List.length (l ++ mp)) (vals (l ++ mp)) (by rfl) HV.out ⟨gu, 0, none⟩ (List.length mq) cu (vals mq) (by rfl) (by rw [vals_len, Nat.mul_one]) HUN.out (one_vals mq) (by have := HQ8.out; omega) (by unfold maxLen; have := And.intro HLP.out HQ8.out; omega) (by have := And.intro HLP.out HQ8.out; omega) HW.out.size _ rfl ?_; intro ga ca w9 hown hgrow hat hlt5; replace HB := Lib.hid (blk_row' HB.out (by decide) HV.out hgrow); have HPU := Lib.hid (own_push (m := mq) HW.out HW.out.size HV.out (Below.refl _ _) hown hgrow); replace HV := Lib.hid HPU.out.1; replace HW := Lib.hid HPU.out.2; clear hown hgrow hat hlt5 HPU HUN; have a0 : w9.cell? ⟨w.heap.size, 0, none⟩ = some (.int .i64 _) := HB.out.cell 0 rfl; have a3 : w9.cell? ⟨w.heap.size, 3, none⟩ = some (.int .i64 _) := HB.out.cell 3 rfl; have a4 : w9.cell? ⟨w.heap.size, 4, none⟩ = some (.int .i64 _) := HB.out.cell 4 rfl; have a5 : w9.cell? ⟨w.heap.size, 5, none⟩ = some (.int .i64 _) := HB.out.cell 5 rfl; have a6 : w9.cell? ⟨w.heap.size, 6, none⟩ = some (.int .i64 _) := HB.out.cell 6 rfl; have a7 : w9.cell? ⟨w.heap.size, 7, none⟩ = some (.int .i64 _) := HB.out.cell 7 rfl; have a8 : w9.cell? ⟨w.heap.size, 8, none⟩ = some (.int .i64 _) := HB.out.cell 8 rfl)
    have hv := HV.out
    simp only [List.length_append] at hv
    go_ret
    exact ⟨_, rfl, by rw [HIE.out]; exact hv, HW.out⟩
  · have g1 : ((k : Int) == 1) = false := by simp; omega
    have n1 : ¬ (k : Int) = 1 := by omega
    by_cases hk2 : k = 2
    · subst hk2
      replace HIE := Lib.hid (show formC ⟨((2 : Nat) : Int), s, i, a, b, t, p, q, f⟩ = l ++ m by rw [HIE.out]; simp)
      clear h1 hk hk1 n1
      go_wp2_with
      (at_builtin; refine wpList_append_lies _ (by rfl) _ _ _ (by rfl) w.heap.size 5 i0 (.int .u8 0) 1 1 Try.underlying121 hi0 hz0 hz1 hz2 (by rfl) (by decide) _ (List.length l) (vals l) (by rfl) HV.out ⟨gu, 0, none⟩ (List.length m) cu (vals m) (by rfl) (by rw [vals_len, Nat.mul_one]) HUN.out (one_vals m) HMP.out (by unfold maxLen; have := And.intro HL.out HML.out; omega) (by have := And.intro HL.out HML.out; omega) HW.out.size _ rfl ?_; intro ga ca w3 hown hgrow hat hlt5; replace HB := Lib.hid (blk_row' HB.out (by decide) HV.out hgrow); have HPU := Lib.hid (own_push (m := m) HW.out HW.out.size HV.out (Below.refl _ _) hown hgrow); replace HV := Lib.hid HPU.out.1; replace HW := Lib.hid HPU.out.2; clear hown hgrow hat hlt5 HPU HUN; have a0 : w3.cell? ⟨w.heap.size, 0, none⟩ = some (.int .i64 _) := HB.out.cell 0 rfl; have a3 : w3.cell? ⟨w.heap.size, 3, none⟩ = some (.int .i64 _) := HB.out.cell 3 rfl; have a4 : w3.cell? ⟨w.heap.size, 4, none⟩ = some (.int .i64 _) := HB.out.cell 4 rfl; have a5 : w3.cell? ⟨w.heap.size, 5, none⟩ = some (.int .i64 _) := HB.out.cell 5 rfl; have a6 : w3.cell? ⟨w.heap.size, 6, none⟩ = some (.int .i64 _) := HB.out.cell 6 rfl; have a7 : w3.cell? ⟨w.heap.size, 7, none⟩ = some (.int .i64 _) := HB.out.cell 7 rfl; have a8 : w3.cell? ⟨w.heap.size, 8, none⟩ = some (.int .i64 _) := HB.out.cell 8 rfl)
      go_ret
      exact ⟨_, rfl, by rw [HIE.out]; exact HV.out, HW.out⟩
    · have g2 : ((k : Int) != 2) = true := by simp; omega
      have n2 : ¬ (k : Int) = 2 := by omega
      replace HIE := Lib.hid (show formC ⟨(k : Int), s, i, a, b, t, p, q, f⟩ = l ++ m ++ beB 8 (zig p) ++ beB 8 (zig q) by rw [HIE.out]; simp [n1, n2])
      clear h1 hk hk1 hk2 n1 n2
      go_wp2_with
      (at_builtin; refine wpList_append_lies _ (by rfl) _ _ _ (by rfl) w.heap.size 5 i0 (.int .u8 0) 1 1 Try.underlying121 hi0 hz0 hz1 hz2 (by rfl) (by decide) _ (List.length l) (vals l) (by rfl) HV.out ⟨gu, 0, none⟩ (List.length m) cu (vals m) (by rfl) (by rw [vals_len, Nat.mul_one]) HUN.out (one_vals m) HMP.out (by unfold maxLen; have := And.intro HL.out HML.out; omega) (by have := And.intro HL.out HML.out; omega) HW.out.size _ rfl ?_; intro ga ca w3 hown hgrow hat hlt5; replace HB := Lib.hid (blk_row' HB.out (by decide) HV.out hgrow); have HPU := Lib.hid (own_push (m := m) HW.out HW.out.size HV.out (Below.refl _ _) hown hgrow); replace HV := Lib.hid HPU.out.1; replace HW := Lib.hid HPU.out.2; clear hown hgrow hat hlt5 HPU HUN; have a0 : w3.cell? ⟨w.heap.size, 0, none⟩ = some (.int .i64 _) := HB.out.cell 0 rfl; have a3 : w3.cell? ⟨w.heap.size, 3, none⟩ = some (.int .i64 _) := HB.out.cell 3 rfl; have a4 : w3.cell? ⟨w.heap.size, 4, none⟩ = some (.int .i64 _) := HB.out.cell 4 rfl; have a5 : w3.cell? ⟨w.heap.size, 5, none⟩ = some (.int .i64 _) := HB.out.cell 5 rfl; have a6 : w3.cell? ⟨w.heap.size, 6, none⟩ = some (.int .i64 _) := HB.out.cell 6 rfl; have a7 : w3.cell? ⟨w.heap.size, 7, none⟩ = some (.int .i64 _) := HB.out.cell 7 rfl; have a8 : w3.cell? ⟨w.heap.size, 8, none⟩ = some (.int .i64 _) := HB.out.cell 8 rfl)
      replace HL := Lib.hid (show (l ++ m).length ≤ 40 by have := HIE2.out; omega)
      clear HIE2 HMP HML HCN
      generalize l ++ m = l at HV HIE HL
      have HP1 := Lib.hid (refint_any p hp0 hp1)
      have HQ1 := Lib.hid (refint_any q hq0 hq1)
      have HP8 := Lib.hid (beB_len 8 (zig p))
      have HQ8 := Lib.hid (beB_len 8 (zig q))
      generalize beB 8 (zig p) = mp at HP1 HP8 HIE
      generalize beB 8 (zig q) = mq at HQ1 HQ8 HIE
      have HLP := Lib.hid (show (l ++ mp).length ≤ 60 by have := HL.out; have := HP8.out; rw [List.length_append]; omega)
      refine (HP1.out _).mono ?_
      rintro e w6 ⟨u, rfl, hu, hb⟩
      clear a0 a3 a4 a5 a6 a7 a8
      obtain ⟨gu, cu, rfl, -, -⟩ := World.ownsRow.form hu (show 0 < List.length mp from (by have := HP8.out; omega))
      have HUN := Lib.hid (World.ownsRow.cells hu rfl)
      replace HV := Lib.hid (own_below HV.out hb)
      replace HB := Lib.hid (HB.out.below hb HB.out.lt)
      replace HW := Lib.hid (HW.out.trans (hb.mono HW.out.size))
      clear hu hb
      have a0 : w6.cell? ⟨w.heap.size, 0, none⟩ = some (.int .i64 _) := HB.out.cell 0 rfl
      have a3 : w6.cell? ⟨w.heap.size, 3, none⟩ = some (.int .i64 _) := HB.out.cell 3 rfl
      have a4 : w6.cell? ⟨w.heap.size, 4, none⟩ = some (.int .i64 _) := HB.out.cell 4 rfl
      have a5 : w6.cell? ⟨w.heap.size, 5, none⟩ = some (.int .i64 _) := HB.out.cell 5 rfl
      have a6 : w6.cell? ⟨w.heap.size, 6, none⟩ = some (.int .i64 _) := HB.out.cell 6 rfl
      have a7 : w6.cell? ⟨w.heap.size, 7, none⟩ = some (.int .i64 _) := HB.out.cell 7 rfl
      have a8 : w6.cell? ⟨w.heap.size, 8, none⟩ = some (.int .i64 _) := HB.out.cell 8 rfl
      go_wp2_with
      (at_builtin; refine wpList_append_lies _ (by rfl) _ _ _ (by rfl) w.heap.size 5 i0 (.int .u8 0) 1 1 Try.underlying121 hi0 hz0 hz1 hz2 (by rfl) (by decide) _ (List.length l) (vals l) (by rfl) HV.out ⟨gu, 0, none⟩ (List.length mp) cu (vals mp) (by rfl) (by rw [vals_len, Nat.mul_one]) HUN.out (one_vals mp) (by have := HP8.out; omega) (by unfold maxLen; have := And.intro HL.out HP8.out; omega) (by have := And.intro HL.out HP8.out; omega) HW.out.size _ rfl ?_; intro ga ca w7 hown hgrow hat hlt5; replace HB := Lib.hid (blk_row' HB.out (by decide) HV.out hgrow); have HPU := Lib.hid (own_push (m := mp) HW.out HW.out.size HV.out (Below.refl _ _) hown hgrow); replace HV := Lib.hid HPU.out.1; replace HW := Lib.hid HPU.out.2; clear hown hgrow hat hlt5 HPU HUN; have a0 : w7.cell? ⟨w.heap.size, 0, none⟩ = some (.int .i64 _) := HB.out.cell 0 rfl; have a3 : w7.cell? ⟨w.heap.size, 3, none⟩ = some (.int .i64 _) := HB.out.cell 3 rfl; have a4 : w7.cell? ⟨w.heap.size, 4, none⟩ = some (.int .i64 _) := HB.out.cell 4 rfl; have a5 : w7.cell? ⟨w.heap.size, 5, none⟩ = some (.int .i64 _) := HB.out.cell 5 rfl; have a6 : w7.cell? ⟨w.heap.size, 6, none⟩ = some (.int .i64 _) := HB.out.cell 6 rfl; have a7 : w7.cell? ⟨w.heap.size, 7, none⟩ = some (.int .i64 _) := HB.out.cell 7 rfl; have a8 : w7.cell? ⟨w.heap.size, 8, none⟩ = some (.int .i64 _) := HB.out.cell 8 rfl)
      refine (HQ1.out _).mono ?_
      rintro e w8 ⟨u, rfl, hu, hb⟩
      clear a0 a3 a4 a5 a6 a7 a8
      obtain ⟨gu, cu, rfl, -, -⟩ := World.ownsRow.form hu (show 0 < List.length mq from (by have := HQ8.out; omega))
      have HUN := Lib.hid (World.ownsRow.cells hu rfl)
      replace HV := Lib.hid (own_below HV.out hb)
      replace HB := Lib.hid (HB.out.below hb HB.out.lt)
      replace HW := Lib.hid (HW.out.trans (hb.mono HW.out.size))
      clear hu hb
      have a0 : w8.cell? ⟨w.heap.size, 0, none⟩ = some (.int .i64 _) := HB.out.cell 0 rfl
      have a3 : w8.cell? ⟨w.heap.size, 3, none⟩ = some (.int .i64 _) := HB.out.cell 3 rfl
      have a4 : w8.cell? ⟨w.heap.size, 4, none⟩ = some (.int .i64 _) := HB.out.cell 4 rfl
      have a5 : w8.cell? ⟨w.heap.size, 5, none⟩ = some (.int .i64 _) := HB.out.cell 5 rfl
      have a6 : w8.cell? ⟨w.heap.size, 6, none⟩ = some (.int .i64 _) := HB.out.cell 6 rfl
      have a7 : w8.cell? ⟨w.heap.size, 7, none⟩ = some (.int .i64 _) := HB.out.cell 7 rfl
      have a8 : w8.cell? ⟨w.heap.size, 8, none⟩ = some (.int .i64 _) := HB.out.cell 8 rfl
      go_wp2_with
      (at_builtin; refine wpList_append_lies _ (by rfl) _ _ _ (by rfl) w.heap.size 5 i0 (.int .u8 0) 1 1 Try.underlying121 hi0 hz0 hz1 hz2 (by rfl) (by decide) _ (List.length (l ++ mp)) (vals (l ++ mp)) (by rfl) HV.out ⟨gu, 0, none⟩ (List.length mq) cu (vals mq) (by rfl) (by rw [vals_len, Nat.mul_one]) HUN.out (one_vals mq) (by have := HQ8.out; omega) (by unfold maxLen; have := And.intro HLP.out HQ8.out; omega) (by have := And.intro HLP.out HQ8.out; omega) HW.out.size _ rfl ?_; intro ga ca w9 hown hgrow hat hlt5; replace HB := Lib.hid (blk_row' HB.out (by decide) HV.out hgrow); have HPU := Lib.hid (own_push (m := mq) HW.out HW.out.size HV.out (Below.refl _ _) hown hgrow); replace HV := Lib.hid HPU.out.1; replace HW := Lib.hid HPU.out.2; clear hown hgrow hat hlt5 HPU HUN; have a0 : w9.cell? ⟨w.heap.size, 0, none⟩ = some (.int .i64 _) := HB.out.cell 0 rfl; have a3 : w9.cell? ⟨w.heap.size, 3, none⟩ = some (.int .i64 _) := HB.out.cell 3 rfl; have a4 : w9.cell? ⟨w.heap.size, 4, none⟩ = some (.int .i64 _) := HB.out.cell 4 rfl; have a5 : w9.cell? ⟨w.heap.size, 5, none⟩ = some (.int .i64 _) := HB.out.cell 5 rfl; have a6 : w9.cell? ⟨w.heap.size, 6, none⟩ = some (.int .i64 _) := HB.out.cell 6 rfl; have a7 : w9.cell? ⟨w.heap.size, 7, none⟩ = some (.int .i64 _) := HB.out.cell 7 rfl; have a8 : w9.cell? ⟨w.heap.size, 8, none⟩ = some (.int .i64 _) := HB.out.cell 8 rfl)
      have hv := HV.out
      simp only [List.length_append] at hv
      go_ret
      exact ⟨_, rfl, by rw [HIE.out]; exact hv, HW.out⟩

/-- The document's encoder. -/
theorem rencode_any (c : Cmd) (w : World) (hp0 : -9223372036854775808 ≤ c.p) (hp1 : c.p ≤ 9223372036854775807) (hq0 : -9223372036854775808 ≤ c.q) (hq1 : c.q ≤ 9223372036854775807) :
    Calls Try.prog 111 #[.agg c.cells] w (EncIs c w) := by
  have HW := Lib.hid (show Below w.heap.size w (w.alloc (.cells c.cells 128)) from (Below.refl _ _).alloc (Nat.le_refl _) _)
  have HRC := Lib.hid (rright_any c)
  have HFC := Lib.hid (fun W hr => form_any c W hr hp0 hp1 hq0 hq1)
  cases hr : rightC c with
  | false =>
    have HF := Lib.hid hr
    rw [hr] at HRC
    obtain ⟨k, s, i, a, b, t, p, q, f⟩ := c
    unfold Cmd.cells at *
    clear hr
    go_enter Try.func111, Try.ntmps111
    go_wp2_with fail
    refine (HRC.out _).mono ?_
    rintro e w1 ⟨rfl, hb1⟩
    go_wp2_with fail
    go_ret2
    exact .inr ⟨HF.out, rfl, HW.out.trans (hb1.mono (by simp))⟩
  | true =>
    have HF := Lib.hid hr
    rw [hr] at HRC
    have HB := Lib.hid (Blk.new w c.cells 128 w.heap.size rfl)
    obtain ⟨k, s, i, a, b, t, p, q, f⟩ := c
    unfold Cmd.cells at *
    clear hr
    go_enter Try.func111, Try.ntmps111
    go_wp2_with fail
    refine (HRC.out _).mono ?_
    rintro e w1 ⟨rfl, hb1⟩
    replace HB := Lib.hid (HB.out.below hb1 HB.out.lt)
    replace HW := Lib.hid (HW.out.trans (hb1.mono (by simp)))
    clear hb1
    go_wp2_with (refine load_blk rfl 128 _ rfl _ rfl _ _ HB.out _ Try.underlying128 rfl (by kernel_rfl) ?_)
    refine (HFC.out _ HF.out).mono ?_
    rintro e w2 ⟨v, rfl, hv, hb⟩
    go_wp2_with fail
    go_ret2
    exact .inl ⟨HF.out, _, rfl, own_mono hv HW.out.size, HW.out.trans (hb.mono HW.out.size)⟩
end Go.Proofs.Ytogjgpiddjmpiaa.Cmds

/- script.Of and the document's. -/
namespace Go.Proofs.Ytogjgpiddjmpiaa.Cmds
set_option linter.unusedVariables false
open Go.RowKit Go.Proofs.Ytogjgpiddjmpiaa.Kit Go.Proofs.Ytogjgpiddjmpiaa.Blk Go.Proofs.Ytogjgpiddjmpiaa.Octets Go.Proofs.Ytogjgpiddjmpiaa.Blk
attribute [local go_sem ↓] Go.wp_at_zero Go.wp_at_succ

def stepC (k y v : Int) (u : Value) : Array Value := #[.int .i64 k, .int .i64 y, .int .i64 v, u]
theorem one_step (k y v : Int) (a : Option Addr) (n c : Nat) : ∀ u ∈ (stepC k y v (.slice a n c)).toList, u.oneCell' = true := by
  simp [stepC, Value.oneCell']
/-- The step that a command gives. -/
def OfIs (c : Cmd) (w : World) (e : Ending) (w' : World) : Prop :=
  (rightC c = true ∧ ∃ v, e = .returned (.tuple #[.agg (stepC 1 0 0 v), .int .i64 0]) ∧ Own w.heap.size (formC c) v w' ∧ Below w.heap.size w w') ∨
  (rightC c = false ∧ e = .returned (.tuple #[.agg (stepC 0 0 0 (.slice none 0 0)), .int .i64 1]) ∧ Below w.heap.size w w')

theorem own_set {N B : Nat} {l : List Nat} {v : Value} {W : World} (h : Own N l v W) (hne : v.ownBlock ≠ some B) (j : Nat) (u : Value) : Own N l v (W.setCell ⟨B, j, none⟩ u) :=
  h.kept (grown_cell W B j u) (.inr hne)

set_option maxRecDepth 20000 in
set_option maxHeartbeats 4000000 in
theorem of_any (c : Cmd) (w : World) (hp0 : -9223372036854775808 ≤ c.p) (hp1 : c.p ≤ 9223372036854775807) (hq0 : -9223372036854775808 ≤ c.q) (hq1 : c.q ≤ 9223372036854775807) :
    Calls Try.prog 62 #[.agg c.cells] w (OfIs c w) := by
  have HB := Lib.hid (Blk.new w c.cells 128 w.heap.size rfl)
  have HC := Lib.hid (fun W => encode_any c W hp0 hp1 hq0 hq1)
  have HR := Lib.hid (Blk.new (w.alloc (.cells c.cells 128)) (stepC 0 0 0 (.slice none 0 0)) 123 (w.heap.size + 1) (by simp))
  have HW := Lib.hid (show Below w.heap.size w ((w.alloc (.cells c.cells 128)).alloc (.cells (stepC 0 0 0 (.slice none 0 0)) 123)) from ((Below.refl _ _).alloc (Nat.le_refl _) _).alloc (by simp) _)
  obtain ⟨k, s, i, a, b, t, p, q, f⟩ := c
  unfold Cmd.cells at *
  go_enter Try.func62, Try.ntmps62
  go_wp2_with fail
  refine (HC.out _).mono ?_
  rintro e w1 (⟨hr, v, rfl, hv, hb⟩ | ⟨hr, rfl, hb⟩)
  · obtain ⟨g, cap, rfl, -, -⟩ := World.ownsRow.form hv (by simp [formC])
    replace HR := Lib.hid (HR.out.below hb HR.out.lt)
    replace HW := Lib.hid (HW.out.trans (hb.mono (by simp; omega)))
    have HF := Lib.hid hr
    have HO := Lib.hid (own_mono hv (N := w.heap.size) (by simp; omega))
    have HO2 := Lib.hid (show ((w.alloc (.cells #[.int .i64 k, .int .i64 s, .int .i64 i, .int .i64 a, .int .i64 b, .int .i64 t, .int .i64 p, .int .i64 q, .int .i64 f] 128)).alloc (.cells (stepC 0 0 0 (.slice none 0 0)) 123)).heap.size ≤ g from (World.ownsRow.lt hv g rfl).1)
    clear hr hv hb
    generalize hl : (formC ⟨k, s, i, a, b, t, p, q, f⟩) = l at HO ⊢
    have HLE := Lib.hid hl
    clear hl
    have c0 : w1.cell? ⟨w.heap.size + 1, 0, none⟩ = some (.int .i64 0) := HR.out.cell 0 rfl
    have c1 : w1.cell? ⟨w.heap.size + 1, 1, none⟩ = some (.int .i64 0) := HR.out.cell 1 rfl
    have c2 : w1.cell? ⟨w.heap.size + 1, 2, none⟩ = some (.int .i64 0) := HR.out.cell 2 rfl
    have c3 : w1.cell? ⟨w.heap.size + 1, 3, none⟩ = some (.slice none 0 0) := HR.out.cell 3 rfl
    have f0 : w1.frozen? ⟨w.heap.size + 1, 0, none⟩ = false := HR.out.free 0
    have f1 : w1.frozen? ⟨w.heap.size + 1, 1, none⟩ = false := HR.out.free 1
    have f2 : w1.frozen? ⟨w.heap.size + 1, 2, none⟩ = false := HR.out.free 2
    have f3 : w1.frozen? ⟨w.heap.size + 1, 3, none⟩ = false := HR.out.free 3
    go_wp2_with fail
    have hx := HR.out.setCells (stepC 1 0 0 (.slice (some ⟨g, 0, none⟩) l.length cap)) rfl
    have hw := Blk.Below.setCells (stepC 1 0 0 (.slice (some ⟨g, 0, none⟩) l.length cap)).toList 0 _ HW.out (B := w.heap.size + 1) (by omega)
    have hg : (Value.slice (some ⟨g, 0, none⟩) l.length cap).ownBlock ≠ some (w.heap.size + 1) := by
      intro e
      have e' : some g = some (w.heap.size + 1) := e
      injection e' with e'
      have := HO2.out
      simp at this
      omega
    refine bodyPost_ret (results_blk_tmp rfl rfl hx Try.underlying123 rfl (by kernel_rfl)) rfl ?_
    exact .inl ⟨HF.out, _, rfl, by rw [HLE.out]; exact own_set (own_set (own_set (own_set HO.out hg 0 _) hg 1 _) hg 2 _) hg 3 _, hw⟩
  · replace HR := Lib.hid (HR.out.below hb HR.out.lt)
    replace HW := Lib.hid (HW.out.trans (hb.mono (by simp; omega)))
    have HF := Lib.hid hr
    clear hr hb
    have c0 : w1.cell? ⟨w.heap.size + 1, 0, none⟩ = some (.int .i64 0) := HR.out.cell 0 rfl
    have c1 : w1.cell? ⟨w.heap.size + 1, 1, none⟩ = some (.int .i64 0) := HR.out.cell 1 rfl
    have c2 : w1.cell? ⟨w.heap.size + 1, 2, none⟩ = some (.int .i64 0) := HR.out.cell 2 rfl
    have c3 : w1.cell? ⟨w.heap.size + 1, 3, none⟩ = some (.slice none 0 0) := HR.out.cell 3 rfl
    have f0 : w1.frozen? ⟨w.heap.size + 1, 0, none⟩ = false := HR.out.free 0
    have f1 : w1.frozen? ⟨w.heap.size + 1, 1, none⟩ = false := HR.out.free 1
    have f2 : w1.frozen? ⟨w.heap.size + 1, 2, none⟩ = false := HR.out.free 2
    have f3 : w1.frozen? ⟨w.heap.size + 1, 3, none⟩ = false := HR.out.free 3
    go_wp2_with fail
    have hx := HR.out.setCells (stepC 0 0 0 (.slice none 0 0)) rfl
    have hw := Blk.Below.setCells (stepC 0 0 0 (.slice none 0 0)).toList 0 _ HW.out (B := w.heap.size + 1) (by omega)
    refine bodyPost_ret (results_blk_tmp rfl rfl hx Try.underlying123 rfl (by kernel_rfl)) rfl ?_
    exact .inr ⟨HF.out, rfl, hw⟩

set_option maxRecDepth 20000 in
set_option maxHeartbeats 4000000 in
theorem rof_any (c : Cmd) (w : World) (hp0 : -9223372036854775808 ≤ c.p) (hp1 : c.p ≤ 9223372036854775807) (hq0 : -9223372036854775808 ≤ c.q) (hq1 : c.q ≤ 9223372036854775807) :
    Calls Try.prog 66 #[.agg c.cells] w (OfIs c w) := by
  have HB := Lib.hid (Blk.new w c.cells 128 w.heap.size rfl)
  have HC := Lib.hid (fun W => rencode_any c W hp0 hp1 hq0 hq1)
  have HR := Lib.hid (Blk.new (w.alloc (.cells c.cells 128)) (stepC 0 0 0 (.slice none 0 0)) 123 (w.heap.size + 1) (by simp))
  have HW := Lib.hid (show Below w.heap.size w ((w.alloc (.cells c.cells 128)).alloc (.cells (stepC 0 0 0 (.slice none 0 0)) 123)) from ((Below.refl _ _).alloc (Nat.le_refl _) _).alloc (by simp) _)
  obtain ⟨k, s, i, a, b, t, p, q, f⟩ := c
  unfold Cmd.cells at *
  go_enter Try.func66, Try.ntmps66
  go_wp2_with fail
  refine (HC.out _).mono ?_
  rintro e w1 (⟨hr, v, rfl, hv, hb⟩ | ⟨hr, rfl, hb⟩)
  · obtain ⟨g, cap, rfl, -, -⟩ := World.ownsRow.form hv (by simp [formC])
    replace HR := Lib.hid (HR.out.below hb HR.out.lt)
    replace HW := Lib.hid (HW.out.trans (hb.mono (by simp; omega)))
    have HF := Lib.hid hr
    have HO := Lib.hid (own_mono hv (N := w.heap.size) (by simp; omega))
    have HO2 := Lib.hid (show ((w.alloc (.cells #[.int .i64 k, .int .i64 s, .int .i64 i, .int .i64 a, .int .i64 b, .int .i64 t, .int .i64 p, .int .i64 q, .int .i64 f] 128)).alloc (.cells (stepC 0 0 0 (.slice none 0 0)) 123)).heap.size ≤ g from (World.ownsRow.lt hv g rfl).1)
    clear hr hv hb
    generalize hl : (formC ⟨k, s, i, a, b, t, p, q, f⟩) = l at HO ⊢
    have HLE := Lib.hid hl
    clear hl
    have c0 : w1.cell? ⟨w.heap.size + 1, 0, none⟩ = some (.int .i64 0) := HR.out.cell 0 rfl
    have c1 : w1.cell? ⟨w.heap.size + 1, 1, none⟩ = some (.int .i64 0) := HR.out.cell 1 rfl
    have c2 : w1.cell? ⟨w.heap.size + 1, 2, none⟩ = some (.int .i64 0) := HR.out.cell 2 rfl
    have c3 : w1.cell? ⟨w.heap.size + 1, 3, none⟩ = some (.slice none 0 0) := HR.out.cell 3 rfl
    have f0 : w1.frozen? ⟨w.heap.size + 1, 0, none⟩ = false := HR.out.free 0
    have f1 : w1.frozen? ⟨w.heap.size + 1, 1, none⟩ = false := HR.out.free 1
    have f2 : w1.frozen? ⟨w.heap.size + 1, 2, none⟩ = false := HR.out.free 2
    have f3 : w1.frozen? ⟨w.heap.size + 1, 3, none⟩ = false := HR.out.free 3
    go_wp2_with fail
    have hx := HR.out.setCells (stepC 1 0 0 (.slice (some ⟨g, 0, none⟩) l.length cap)) rfl
    have hw := Blk.Below.setCells (stepC 1 0 0 (.slice (some ⟨g, 0, none⟩) l.length cap)).toList 0 _ HW.out (B := w.heap.size + 1) (by omega)
    have hg : (Value.slice (some ⟨g, 0, none⟩) l.length cap).ownBlock ≠ some (w.heap.size + 1) := by
      intro e
      have e' : some g = some (w.heap.size + 1) := e
      injection e' with e'
      have := HO2.out
      simp at this
      omega
    refine bodyPost_ret (results_blk_tmp rfl rfl hx Try.underlying123 rfl (by kernel_rfl)) rfl ?_
    exact .inl ⟨HF.out, _, rfl, by rw [HLE.out]; exact own_set (own_set (own_set (own_set HO.out hg 0 _) hg 1 _) hg 2 _) hg 3 _, hw⟩
  · replace HR := Lib.hid (HR.out.below hb HR.out.lt)
    replace HW := Lib.hid (HW.out.trans (hb.mono (by simp; omega)))
    have HF := Lib.hid hr
    clear hr hb
    have c0 : w1.cell? ⟨w.heap.size + 1, 0, none⟩ = some (.int .i64 0) := HR.out.cell 0 rfl
    have c1 : w1.cell? ⟨w.heap.size + 1, 1, none⟩ = some (.int .i64 0) := HR.out.cell 1 rfl
    have c2 : w1.cell? ⟨w.heap.size + 1, 2, none⟩ = some (.int .i64 0) := HR.out.cell 2 rfl
    have c3 : w1.cell? ⟨w.heap.size + 1, 3, none⟩ = some (.slice none 0 0) := HR.out.cell 3 rfl
    have f0 : w1.frozen? ⟨w.heap.size + 1, 0, none⟩ = false := HR.out.free 0
    have f1 : w1.frozen? ⟨w.heap.size + 1, 1, none⟩ = false := HR.out.free 1
    have f2 : w1.frozen? ⟨w.heap.size + 1, 2, none⟩ = false := HR.out.free 2
    have f3 : w1.frozen? ⟨w.heap.size + 1, 3, none⟩ = false := HR.out.free 3
    go_wp2_with fail
    have hx := HR.out.setCells (stepC 0 0 0 (.slice none 0 0)) rfl
    have hw := Blk.Below.setCells (stepC 0 0 0 (.slice none 0 0)).toList 0 _ HW.out (B := w.heap.size + 1) (by omega)
    refine bodyPost_ret (results_blk_tmp rfl rfl hx Try.underlying123 rfl (by kernel_rfl)) rfl ?_
    exact .inr ⟨HF.out, rfl, hw⟩
end Go.Proofs.Ytogjgpiddjmpiaa.Cmds

/- Rows of steps; damperref29.Same. -/
namespace Go.Proofs.Ytogjgpiddjmpiaa.Steps
set_option linter.unusedVariables false
open Go.RowKit Go.Proofs.Ytogjgpiddjmpiaa.Kit Go.Proofs.Ytogjgpiddjmpiaa.Blk Go.Proofs.Ytogjgpiddjmpiaa.Octets Go.Proofs.Ytogjgpiddjmpiaa.Cmds
attribute [local go_sem ↓] Go.wp_at_zero Go.wp_at_succ

/-- A step: three numbers and bytes (none: nil). -/
structure Stp where
  k : Int
  y : Int
  v : Int
  l : List Nat
def BytesOf (N : Nat) (l : List Nat) (u : Value) (W : World) : Prop := (l = [] ∧ u = .slice none 0 0) ∨ (0 < l.length ∧ Own N l u W)
def flat : List (Stp × Value) → List Value
  | [] => []
  | (s, u) :: r => .int .i64 s.k :: .int .i64 s.y :: .int .i64 s.v :: u :: flat r
theorem flat_len (r : List (Stp × Value)) : (flat r).length = r.length * 4 := by
  induction r with
  | nil => rfl
  | cons x r ih => obtain ⟨s, u⟩ := x; simp [flat, ih]; omega
theorem flat_app (r t : List (Stp × Value)) : flat (r ++ t) = flat r ++ flat t := by
  induction r with
  | nil => rfl
  | cons x r ih => obtain ⟨s, u⟩ := x; simp [flat, ih]
theorem flat_at (r : List (Stp × Value)) (i : Nat) (h : i < r.length) : (flat r)[i * 4]? = some (.int .i64 r[i].1.k) ∧ (flat r)[i * 4 + 1]? = some (.int .i64 r[i].1.y) ∧ (flat r)[i * 4 + 2]? = some (.int .i64 r[i].1.v) ∧ (flat r)[i * 4 + 3]? = some r[i].2 := by
  induction r generalizing i with
  | nil => exact absurd h (by simp)
  | cons x r ih =>
    obtain ⟨s, u⟩ := x
    cases i with
    | zero => exact ⟨rfl, rfl, rfl, rfl⟩
    | succ i =>
      have h' := ih i (by simpa using h)
      rw [show (i + 1) * 4 = i * 4 + 1 + 1 + 1 + 1 by omega, show i * 4 + 1 + 1 + 1 + 1 + 1 = (i * 4 + 1) + 1 + 1 + 1 + 1 by omega]
      simpa [flat] using h'
/-- A row of steps, each with bytes of its own. -/
def Row (N : Nat) (v : Value) (ss : List Stp) (W : World) : Prop :=
  ∃ r : List (Stp × Value), r.map (·.1) = ss ∧ W.ownsRow N 123 4 v r.length (flat r) ∧ ∀ x ∈ r, BytesOf N x.1.l x.2 W

set_option maxRecDepth 20000 in
set_option maxHeartbeats 4000000 in
theorem same_steps (N M : Nat) (ss : List Stp) (h0 : 0 < ss.length) (hl : ss.length ≤ 1000) (v u : Value) (w : World) (hv : Row N v ss w) (hu : Row M u ss w) :
    Calls Try.prog 22 #[v, u] w fun e w' => e = .returned (.bool true) ∧ Below w.heap.size w w' ∧ w'.heap = w.heap := by
  obtain ⟨r, hr, hrow, hb⟩ := hv
  obtain ⟨r2, hr2, hrow2, hb2⟩ := hu
  have hn : r.length = ss.length := by rw [← hr, List.length_map]
  have hn2 : r2.length = ss.length := by rw [← hr2, List.length_map]
  obtain ⟨g, cap, rfl, -, -⟩ := World.ownsRow.form hrow (by omega)
  obtain ⟨g2, cap2, rfl, -, -⟩ := World.ownsRow.form hrow2 (by omega)
  have HC := Lib.hid (World.ownsRow.cells hrow rfl)
  have HC2 := Lib.hid (World.ownsRow.cells hrow2 rfl)
  rw [hn, hn2]
  clear hrow hrow2
  go_enter Try.func22, Try.ntmps22
  go_wp2_with fail
  go_loopw [5] (fun i wr => ∃ k : Nat, k ≤ ss.length ∧ i = .int .i64 k ∧ Below w.heap.size w wr ∧ wr.heap = w.heap) (fun i _ => ss.length - (intOf i).toNat)
  case atStart => exact ⟨0, by omega, rfl, Below.refl _ _, rfl⟩
  case round =>
    obtain ⟨k, hk, rfl, hbw, hwr⟩ := hrel
    by_cases hlt : k < ss.length
    · have hk1 : k < r.length := by omega
      have hk2 : k < r2.length := by omega
      have e1 : r[k].1 = ss[k] := by simp [← hr]
      have e2 : r2[k].1 = ss[k] := by simp [← hr2]
      have hx := hb r[k] (List.getElem_mem hk1)
      have hy := hb2 r2[k] (List.getElem_mem hk2)
      obtain ⟨a0, a1, a2, a3⟩ := flat_at r k hk1
      obtain ⟨b0, b1, b2, b3⟩ := flat_at r2 k hk2
      rw [e1] at hx a0 a1 a2
      rw [e2] at hy b0 b1 b2
      have c0 := HC.out _ _ a0
      have c1 := HC.out _ _ a1
      have c2 := HC.out _ _ a2
      have c3 := HC.out _ _ a3
      have d0 := HC2.out _ _ b0
      have d1 := HC2.out _ _ b1
      have d2 := HC2.out _ _ b2
      have d3 := HC2.out _ _ b3
      rw [Addr.add_mid, Nat.zero_add] at c0 c1 c2 c3 d0 d1 d2 d3
      have hcell : ∀ p, w.cell? p = wr.cell? p := fun p => by simp [World.cell?, hwr]
      rw [hcell] at c0 c1 c2 c3 d0 d1 d2 d3
      clear hcell
      clear HC HC2 a0 a1 a2 a3 b0 b1 b2 b3 hb hb2 e1 e2
      generalize r[k].2 = x at hx c3
      generalize r2[k].2 = y at hy d3
      generalize ss[k] = s at hx hy c0 c1 c2 d0 d1 d2
      have HS := Lib.hid (show ∀ W, W.heap = w.heap → Calls Try.prog 70 #[x, y] W fun e w' => e = .returned (.bool true) ∧ w' = W from fun W hW => by
        refine Calls.mono (R := fun e w' => e = .returned (.bool true) ∧ W = w') ?_ (fun _ _ ⟨h, h'⟩ => ⟨h, h'.symm⟩)
        rcases hx with ⟨h1, rfl⟩ | ⟨h1, hx⟩
        · rcases hy with ⟨_, rfl⟩ | ⟨h2, _⟩
          · exact same_nil W
          · rw [h1] at h2; exact absurd h2 (by simp)
        · rcases hy with ⟨h2, _⟩ | ⟨_, hy⟩
          · rw [h2] at h1; exact absurd h1 (by simp)
          · exact same_any N M s.l h1 x y W (by unfold Own World.ownsRow at hx ⊢; rw [hW]; exact hx) (by unfold Own World.ownsRow at hy ⊢; rw [hW]; exact hy))
      clear hx hy hr hr2
      go_wp2_with fail
      have HH := Lib.hid hwr
      have HBW := Lib.hid hbw
      clear hwr hbw
      go_quiet ((go_at_call 70; exact Calls.quiet_of_same (HS.out _ HH.out)))
      replace HH := Lib.hid (show (wr.drewN nq).heap = w.heap from HH.out)
      replace HBW := Lib.hid (below_drewN HBW.out nq)
      generalize wr.drewN nq = w2 at HH HBW ⊢
      go_wp2_with fail
      go_roundw
      case rel => exact ⟨k + 1, by omega, by go_num, HBW.out, HH.out⟩
      case measure => simp [intOf]; omega
    · go_wp2_with fail
      go_ret
      exact ⟨rfl, hbw, hwr⟩
end Go.Proofs.Ytogjgpiddjmpiaa.Steps

/- Rows of steps: what appending keeps. -/
namespace Go.Proofs.Ytogjgpiddjmpiaa.Steps
open Go.RowKit Go.Proofs.Ytogjgpiddjmpiaa.Kit Go.Proofs.Ytogjgpiddjmpiaa.Blk Go.Proofs.Ytogjgpiddjmpiaa.Octets Go.Proofs.Ytogjgpiddjmpiaa.Cmds

/-- A row of steps with its fourth cells told. -/
def RowR (N : Nat) (v : Value) (r : List (Stp × Value)) (W : World) : Prop :=
  W.ownsRow N 123 4 v r.length (flat r) ∧ ∀ x ∈ r, BytesOf N x.1.l x.2 W
theorem RowR.row {N : Nat} {v : Value} {r : List (Stp × Value)} {W : World} (h : RowR N v r W) : Row N v (r.map (·.1)) W := ⟨r, rfl, h.1, h.2⟩
theorem bytes_grown {N M k : Nat} {l : List Nat} {u v : Value} {xs : List Value} {W w1 : World} (h : BytesOf N l u W) (hr : W.ownsRow M 123 4 v k xs) (hg : W.grownBy w1 v.ownBlock) : BytesOf N l u w1 := by
  rcases h with h | ⟨h0, h⟩
  · exact .inl h
  · refine .inr ⟨h0, World.ownsRow.kept h hg ?_⟩
    cases hu : u.ownBlock with
    | none => exact .inl rfl
    | some j =>
      right
      intro e
      obtain ⟨_, cur, hc⟩ := row_from' h hu
      obtain ⟨_, cur2, hc2⟩ := row_from' hr e.symm
      rw [hc] at hc2
      injection hc2 with hc2
      injection hc2 with _ hc2 _
      exact absurd hc2 (by decide)
theorem bytes_below {N : Nat} {l : List Nat} {u : Value} {W W' : World} (h : BytesOf N l u W) (hb : Below W.heap.size W W') : BytesOf N l u W' := by
  rcases h with h | ⟨h0, h⟩
  · exact .inl h
  · exact .inr ⟨h0, own_below h hb⟩
theorem RowR.below {N : Nat} {v : Value} {r : List (Stp × Value)} {W W' : World} (h : RowR N v r W) (hb : Below W.heap.size W W') : RowR N v r W' :=
  ⟨h.1.kept (row := none) ⟨hb.os, hb.tape, hb.output, hb.size, fun k hk _ => hb.block k hk⟩ (by
    cases v.ownBlock with
    | none => exact .inl rfl
    | some j => exact .inr (by simp)), fun x hx => bytes_below (h.2 x hx) hb⟩
theorem RowR.push {N : Nat} {v v' u : Value} {r : List (Stp × Value)} {s : Stp} {W w1 : World} (h : RowR N v r W) (hu : BytesOf N s.l u W)
    (hown : w1.ownsRow N 123 4 v' (r.length + 1) (flat r ++ (stepC s.k s.y s.v u).toList)) (hg : W.grownBy w1 v.ownBlock) : RowR N v' (r ++ [(s, u)]) w1 := by
  refine ⟨by rw [List.length_append, flat_app]; exact hown, fun x hx => ?_⟩
  rcases List.mem_append.1 hx with hx | hx
  · exact bytes_grown (h.2 x hx) h.1 hg
  · obtain rfl := List.mem_singleton.1 hx
    exact bytes_grown hu h.1 hg
end Go.Proofs.Ytogjgpiddjmpiaa.Steps
