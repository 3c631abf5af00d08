/- Parts of the proof: RefOctI, Cmd, CmdR, CmdR2, CmdE, OctR, DecF, CmdRR, CmdF, Script, Steps, StepsP, Rd, RdU, RdN, DecZ. -/
import Derived.Test.YtmkcooamgojbpaaDoorPart12
import Derived.Lib.SlBytesRow
import Derived.Lib.BufferRead
import Derived.Deep.RegionHeld3
import Derived.Test.YtmkcooamgojbpaaDoorPart5
import Derived.Deep.QuietTactic
import Derived.Test.YtmkcooamgojbpaaDoorPart8
import Derived.WalkMore

/- damperref03: turned, Int, Same. -/
namespace Go.Proofs.YtmkcooamgojbpaaDoor.Octets
set_option linter.unusedVariables false
open Go.RowKit Go.Proofs.YtmkcooamgojbpaaDoor.Kit Go.Proofs.YtmkcooamgojbpaaDoor.Blk
attribute [local go_sem ↓] Go.wp_at_zero Go.wp_at_succ

theorem turned_any (n : Int) (h0 : -9223372036854775808 ≤ n) (h1 : n ≤ 9223372036854775807) (w : World) :
    Calls Tryd.prog 248 #[.int .i64 n] w fun e w' => e = .returned (.int .u64 (zig n)) ∧ w = w' := by
  by_cases h : 0 ≤ n
  · have hz : (zig n : Int) = 2 * n := by unfold zig; rw [if_pos h]; omega
    go_enter Tryd.func248, Tryd.ntmps248
    go_wp2_with fail
    go_ret
    simp [hz]
  · have hz : (zig n : Int) = -2 * n - 1 := by unfold zig; rw [if_neg h]; omega
    go_enter Tryd.func248, Tryd.ntmps248
    go_wp2_with fail
    go_ret
    simp
    omega

theorem refint_any (n : Int) (h0 : -9223372036854775808 ≤ n) (h1 : n ≤ 9223372036854775807) (w : World) :
    Calls Tryd.prog 243 #[.int .i64 n] w fun e w' => BytesIs (beB 8 (zig n)) w e w' := by
  have HT := Lib.hid (turned_any n h0 h1)
  have HU := Lib.hid (refuint_any (zig n) 8 (by decide) (by decide) (zig_lt n h0 h1))
  go_enter Tryd.func243, Tryd.ntmps243
  go_wp2_with (first | (go_at_call 248; refine (HT.out _).mono ?_; rintro e w1 ⟨rfl, rfl⟩) | (go_at_call 247; refine (HU.out _).mono ?_; rintro e w1 ⟨v, rfl, hv, hb⟩))
  go_ret
  exact ⟨_, rfl, hv, hb⟩

def nums (l : List Nat) : List Int := l.map fun (b : Nat) => (b : Int)
theorem own_string {N : Nat} {l : List Nat} {v : Value} {w : World} (h : Own N l v w) (h0 : 0 < l.length) : (convert 40 9 v).run Tryd.prog w = .ok (.string (strOfNums (nums l))) w := by
  obtain ⟨g, cap, rfl, hg1, hg2⟩ := World.ownsRow.form h h0
  refine run_convert_bytes_arg w 40 5 (by kernel_rfl) (by kernel_rfl) g 0 l.length cap (nums l) (by simp [nums]) (fun i hi => ?_) 9 (by kernel_rfl)
  have := World.ownsRow.cells h rfl i (.int .u8 (l[i] : Int)) (by simp [vals, hi])
  rw [Addr.add_mid] at this
  simpa [nums, List.getD, hi] using this

set_option maxRecDepth 20000 in
theorem same_any (N M : Nat) (l : List Nat) (h0 : 0 < l.length) (v u : Value) (w : World) (hv : Own N l v w) (hu : Own M l u w) :
    Calls Tryd.prog 97 #[v, u] w fun e w' => e = .returned (.bool true) ∧ w = w' := by
  have h1 := own_string hv h0
  have h2 := own_string hu h0
  clear hv hu
  generalize strOfNums (nums l) = s at h1 h2
  go_enter Tryd.func97, Tryd.ntmps97
  go_wp2_with fail
  go_ret
  simp

theorem same_nil (w : World) :
    Calls Tryd.prog 97 #[.slice none 0 0, .slice none 0 0] w fun e w' => e = .returned (.bool true) ∧ w = w' := by
  have h1 : (convert 40 9 (.slice none 0 0)).run Tryd.prog w = .ok (.string ⟨#[]⟩) w := Lib.run_convert_nil_bytes w 40 9 5 0 (by kernel_rfl) (by kernel_rfl) (by kernel_rfl)
  generalize (⟨#[]⟩ : ByteArray) = s at h1
  go_enter Tryd.func97, Tryd.ntmps97
  go_wp2_with fail
  go_ret
  simp
end Go.Proofs.YtmkcooamgojbpaaDoor.Octets

/- Commands: command.Right and the document's. -/
namespace Go.Proofs.YtmkcooamgojbpaaDoor.Cmds
set_option linter.unusedVariables false
open Go.RowKit Go.Proofs.YtmkcooamgojbpaaDoor.Kit Go.Proofs.YtmkcooamgojbpaaDoor.Blk Go.Proofs.YtmkcooamgojbpaaDoor.Octets
attribute [local go_sem ↓] Go.wp_at_zero Go.wp_at_succ

structure Cmd where
  k : Int
  s : Int
  i : Int
  a : Int
  b : Int
  t : Int
  p : Int
  q : Int
  f : Int
def Cmd.cells (c : Cmd) : Array Value := #[.int .i64 c.k, .int .i64 c.s, .int .i64 c.i, .int .i64 c.a, .int .i64 c.b, .int .i64 c.t, .int .i64 c.p, .int .i64 c.q, .int .i64 c.f]
def zeroC : Cmd := ⟨0, 0, 0, 0, 0, 0, 0, 0, 0⟩
def inB (v lo hi : Int) : Bool := decide (lo ≤ v) && decide (v ≤ hi)
theorem inB_yes {v lo hi : Int} (h : inB v lo hi = true) : lo ≤ v ∧ v ≤ hi := by simpa [inB] using h
theorem inB_no {v lo hi : Int} (h : inB v lo hi = false) : v < lo ∨ hi < v := by
  simp [inB] at h
  omega
/-- What the language says of a command. -/
def rightC (c : Cmd) : Bool :=
  if inB c.s 0 255 = false then false
  else if inB c.i 0 4611686018427387904 = false then false
  else if c.k = 1 then
    if inB c.a 0 1073741824 = false then false
    else if inB c.b 0 1 = false then false
    else if inB c.t 1 5 = false then false
    else inB c.f 0 7
  else if c.k = 3 then c.a == 0 && (c.b == 0 && (c.t == 0 && c.f == 0))
  else if c.k = 2 then c.a == 0 && (c.b == 0 && (c.t == 0 && (c.p == 0 && (c.q == 0 && c.f == 0))))
  else false

set_option maxRecDepth 20000 in
theorem in_any (v lo hi : Int) (w : World) : Calls Tryd.prog 205 #[.int .i64 v, .int .i64 lo, .int .i64 hi] w fun e w' => e = .returned (.bool (inB v lo hi)) ∧ w = w' := by
  by_cases h1 : lo ≤ v <;> by_cases h2 : v ≤ hi <;>
  · go_enter Tryd.func205, Tryd.ntmps205
    go_wp2_with fail
    go_ret
    simp [inB, h1, h2]
theorem rin_any (v lo hi : Int) (w : World) : Calls Tryd.prog 210 #[.int .i64 v, .int .i64 lo, .int .i64 hi] w fun e w' => e = .returned (.bool (inB v lo hi)) ∧ w = w' := by
  by_cases h1 : lo ≤ v <;> by_cases h2 : v ≤ hi <;>
  · go_enter Tryd.func210, Tryd.ntmps210
    go_wp2_with fail
    go_ret
    simp [inB, h1, h2]
end Go.Proofs.YtmkcooamgojbpaaDoor.Cmds

/- command.Right. -/
namespace Go.Proofs.YtmkcooamgojbpaaDoor.Cmds
set_option linter.unusedVariables false
open Go.RowKit Go.Proofs.YtmkcooamgojbpaaDoor.Kit Go.Proofs.YtmkcooamgojbpaaDoor.Blk Go.Proofs.YtmkcooamgojbpaaDoor.Octets
attribute [local go_sem ↓] Go.wp_at_zero Go.wp_at_succ

set_option maxRecDepth 20000 in
set_option maxHeartbeats 4000000 in
theorem right_one (c : Cmd) (w : World) (hc : c.k = 1 ∨ inB c.s 0 255 = false ∨ inB c.i 0 4611686018427387904 = false) : Calls Tryd.prog 170 #[.agg c.cells] w fun e w' => e = .returned (.bool (rightC c)) ∧ Below w.heap.size w w' := by
  obtain ⟨k, s, i, a, b, t, p, q, f⟩ := c
  have HB := Lib.hid (show Below w.heap.size w (w.alloc (.cells (Cmd.cells ⟨k, s, i, a, b, t, p, q, f⟩) 164)) from (Below.refl _ _).alloc (Nat.le_refl _) _)
  have HB2 := Lib.hid (show ∀ cs : Array Value, Below w.heap.size w ((w.alloc (.cells (Cmd.cells ⟨k, s, i, a, b, t, p, q, f⟩) 164)).alloc (.cells cs 164)) from fun cs => ((Below.refl _ _).alloc (Nat.le_refl _) _).alloc (by simp) _)
  unfold Cmd.cells at *
  dsimp only at hc
  cases h1 : inB s 0 255 with
  | false =>
    clear hc
    have HS := Lib.hid (show rightC ⟨k, s, i, a, b, t, p, q, f⟩ = false by simp [rightC, h1])
    go_enter Tryd.func170, Tryd.ntmps170
    go_wp2_with (go_at_call 205; refine (in_any _ _ _ _).mono ?_; rintro e w1 ⟨rfl, rfl⟩)
    go_ret
    exact ⟨ret_bool HS.out.symm, HB.out⟩
  | true =>
    cases h2 : inB i 0 4611686018427387904 with
    | false =>
      have HS := Lib.hid (show rightC ⟨k, s, i, a, b, t, p, q, f⟩ = false by simp [rightC, h2])
      clear hc
      rcases inB_no h2 with g2 | g2
      · clear h2
        go_enter Tryd.func170, Tryd.ntmps170
        go_wp2_with (go_at_call 205; refine (in_any _ _ _ _).mono ?_; rintro e w1 ⟨rfl, rfl⟩)
        go_ret
        exact ⟨ret_bool HS.out.symm, HB.out⟩
      · have g3 : ¬ i < 0 := by omega
        clear h2
        go_enter Tryd.func170, Tryd.ntmps170
        go_wp2_with (go_at_call 205; refine (in_any _ _ _ _).mono ?_; rintro e w1 ⟨rfl, rfl⟩)
        go_ret
        exact ⟨ret_bool HS.out.symm, HB.out⟩
    | true =>
      obtain ⟨g2, g3⟩ := inB_yes h2
      · obtain rfl : k = 1 := by simpa [h1, h2] using hc
        clear hc
        cases h3 : inB a 0 1073741824 with
        | false =>
          have HS := Lib.hid (show rightC ⟨1, s, i, a, b, t, p, q, f⟩ = false by simp [rightC, h1, h2, h3])
          clear h2
          go_enter Tryd.func170, Tryd.ntmps170
          go_wp2_with (go_at_call 205; refine (in_any _ _ _ _).mono ?_; rintro e w1 ⟨rfl, rfl⟩)
          go_ret
          exact ⟨ret_bool HS.out.symm, HB2.out _⟩
        | true =>
          cases h4 : inB b 0 1 with
          | false =>
            have HS := Lib.hid (show rightC ⟨1, s, i, a, b, t, p, q, f⟩ = false by simp [rightC, h1, h2, h3, h4])
            clear h2
            go_enter Tryd.func170, Tryd.ntmps170
            go_wp2_with (go_at_call 205; refine (in_any _ _ _ _).mono ?_; rintro e w1 ⟨rfl, rfl⟩)
            go_ret
            exact ⟨ret_bool HS.out.symm, HB2.out _⟩
          | true =>
            cases h5 : inB t 1 5 with
            | false =>
              have HS := Lib.hid (show rightC ⟨1, s, i, a, b, t, p, q, f⟩ = false by simp [rightC, h1, h2, h3, h4, h5])
              clear h2
              go_enter Tryd.func170, Tryd.ntmps170
              go_wp2_with (go_at_call 205; refine (in_any _ _ _ _).mono ?_; rintro e w1 ⟨rfl, rfl⟩)
              go_ret
              exact ⟨ret_bool HS.out.symm, HB2.out _⟩
            | true =>
              cases h6 : inB f 0 7 with
              | false =>
                have HS := Lib.hid (show rightC ⟨1, s, i, a, b, t, p, q, f⟩ = false by simp [rightC, h1, h2, h3, h4, h5, h6])
                clear h2
                go_enter Tryd.func170, Tryd.ntmps170
                go_wp2_with (go_at_call 205; refine (in_any _ _ _ _).mono ?_; rintro e w1 ⟨rfl, rfl⟩)
                go_ret
                exact ⟨ret_bool HS.out.symm, HB2.out _⟩
              | true =>
                have HS := Lib.hid (show rightC ⟨1, s, i, a, b, t, p, q, f⟩ = true by simp [rightC, h1, h2, h3, h4, h5, h6])
                clear h2
                go_enter Tryd.func170, Tryd.ntmps170
                go_wp2_with (go_at_call 205; refine (in_any _ _ _ _).mono ?_; rintro e w1 ⟨rfl, rfl⟩)
                go_ret
                exact ⟨ret_bool HS.out.symm, HB2.out _⟩
end Go.Proofs.YtmkcooamgojbpaaDoor.Cmds

/- command.Right: cancels and replacements. -/
namespace Go.Proofs.YtmkcooamgojbpaaDoor.Cmds
set_option linter.unusedVariables false
open Go.RowKit Go.Proofs.YtmkcooamgojbpaaDoor.Kit Go.Proofs.YtmkcooamgojbpaaDoor.Blk Go.Proofs.YtmkcooamgojbpaaDoor.Octets
attribute [local go_sem ↓] Go.wp_at_zero Go.wp_at_succ

set_option maxRecDepth 20000 in
set_option maxHeartbeats 4000000 in
theorem right_any (c : Cmd) (w : World) : Calls Tryd.prog 170 #[.agg c.cells] w fun e w' => e = .returned (.bool (rightC c)) ∧ Below w.heap.size w w' := by
  by_cases hc : c.k = 1 ∨ inB c.s 0 255 = false ∨ inB c.i 0 4611686018427387904 = false
  · exact right_one c w hc
  obtain ⟨k, s, i, a, b, t, p, q, f⟩ := c
  have HB2 := Lib.hid (show ∀ cs : Array Value, Below w.heap.size w ((w.alloc (.cells (Cmd.cells ⟨k, s, i, a, b, t, p, q, f⟩) 164)).alloc (.cells cs 164)) from fun cs => ((Below.refl _ _).alloc (Nat.le_refl _) _).alloc (by simp) _)
  unfold Cmd.cells at *
  dsimp only at hc
  have hk1 : ¬ k = 1 := fun h => hc (.inl h)
  have h1 : inB s 0 255 = true := by
    cases h : inB s 0 255 with
    | true => rfl
    | false => exact absurd (.inr (.inl h)) hc
  have h2 : inB i 0 4611686018427387904 = true := by
    cases h : inB i 0 4611686018427387904 with
    | true => rfl
    | false => exact absurd (.inr (.inr h)) hc
  obtain ⟨g2, g3⟩ := inB_yes h2
  have b1 : (k == 1) = false := by simpa using hk1
  clear hc
  by_cases hk3 : k = 3
  · subst hk3
    have HS := Lib.hid (show rightC ⟨3, s, i, a, b, t, p, q, f⟩ = (a == 0 && (b == 0 && (t == 0 && f == 0))) by simp [rightC, h1, h2])
    clear h2 hk1
    go_enter Tryd.func170, Tryd.ntmps170
    go_wp2_with (go_at_call 205; refine (in_any _ _ _ _).mono ?_; rintro e w1 ⟨rfl, rfl⟩)
    all_goals (subst_vars; go_ret; exact ⟨ret_bool (by rw [HS.out]; try simp [*]), HB2.out _⟩)
  · have b3 : (k == 3) = false := by simpa using hk3
    by_cases hk2 : k = 2
    · subst hk2
      have HS := Lib.hid (show rightC ⟨2, s, i, a, b, t, p, q, f⟩ = (a == 0 && (b == 0 && (t == 0 && (p == 0 && (q == 0 && f == 0))))) by simp [rightC, h1, h2])
      clear h2 hk1 hk3
      go_enter Tryd.func170, Tryd.ntmps170
      go_wp2_with (go_at_call 205; refine (in_any _ _ _ _).mono ?_; rintro e w1 ⟨rfl, rfl⟩)
      all_goals (subst_vars; go_ret; exact ⟨ret_bool (by rw [HS.out]; try simp [*]), HB2.out _⟩)
    · have b2 : (k == 2) = false := by simpa using hk2
      have HS := Lib.hid (show rightC ⟨k, s, i, a, b, t, p, q, f⟩ = false by simp [rightC, h1, h2, hk1, hk2, hk3])
      clear h2 hk1 hk3 hk2
      go_enter Tryd.func170, Tryd.ntmps170
      go_wp2_with (go_at_call 205; refine (in_any _ _ _ _).mono ?_; rintro e w1 ⟨rfl, rfl⟩)
      all_goals (subst_vars; go_ret; exact ⟨ret_bool (by rw [HS.out]; try simp [*]), HB2.out _⟩)
end Go.Proofs.YtmkcooamgojbpaaDoor.Cmds

/- command.Encode. -/
namespace Go.Proofs.YtmkcooamgojbpaaDoor.Cmds
set_option linter.unusedVariables false
open Go.RowKit Go.Proofs.YtmkcooamgojbpaaDoor.Kit Go.Proofs.YtmkcooamgojbpaaDoor.Blk Go.Proofs.YtmkcooamgojbpaaDoor.Octets
attribute [local go_sem ↓] Go.wp_at_zero Go.wp_at_succ

/-- The bytes of a command that is right. -/
def formC (c : Cmd) : List Nat :=
  [c.k.toNat, c.s.toNat] ++ numB c.i.toNat ++ (if c.k = 1 then numB c.a.toNat ++ [c.b.toNat, c.t.toNat, c.f.toNat] else []) ++ (if c.k = 2 then [] else beB 8 (zig c.p) ++ beB 8 (zig c.q))
/-- The bounds that go with rightC. -/
theorem right_in {c : Cmd} (h : rightC c = true) : (c.k = 1 ∨ c.k = 2 ∨ c.k = 3) ∧ (0 ≤ c.s ∧ c.s ≤ 255) ∧ (0 ≤ c.i ∧ c.i ≤ 4611686018427387904) ∧ (c.k = 1 → (0 ≤ c.a ∧ c.a ≤ 1073741824) ∧ (0 ≤ c.b ∧ c.b ≤ 1) ∧ (1 ≤ c.t ∧ c.t ≤ 5) ∧ (0 ≤ c.f ∧ c.f ≤ 7)) := by
  unfold rightC at h
  split at h
  · cases h
  split at h
  · cases h
  rename_i h1 h2
  have h1' := inB_yes (by simpa using h1)
  have h2' := inB_yes (by simpa using h2)
  refine ⟨?_, h1', h2', fun hk => ?_⟩
  · split at h
    · exact .inl (by assumption)
    · split at h
      · exact .inr (.inr (by assumption))
      · split at h
        · exact .inr (.inl (by assumption))
        · cases h
  · rw [if_pos hk] at h
    split at h
    · cases h
    split at h
    · cases h
    split at h
    · cases h
    rename_i h3 h4 h5
    exact ⟨inB_yes (by simpa using h3), inB_yes (by simpa using h4), inB_yes (by simpa using h5), inB_yes h⟩

/-- What an encoder answers: bytes of its own, or a fault. -/
def EncIs (c : Cmd) (w : World) (e : Ending) (w' : World) : Prop :=
  (rightC c = true ∧ ∃ v, e = .returned (.tuple #[v, .int .i64 0]) ∧ Own w.heap.size (formC c) v w' ∧ Below w.heap.size w w') ∨
  (rightC c = false ∧ e = .returned (.tuple #[.slice none 0 0, .int .i64 1]) ∧ Below w.heap.size w w')

theorem ws_alloc {N P : Nat} {l : List Nat} {W : World} (h : WS N P l W) (o : Obj) : WS N P l (W.alloc o) := by
  obtain ⟨v, hv, hrow⟩ := h
  exact ⟨v, hv.old o, hrow.alloc o⟩
theorem own_mono {N M : Nat} {l : List Nat} {v : Value} {W : World} (h : Own M l v W) (hN : N ≤ M) : Own N l v W :=
  ⟨h.1, h.2.imp id fun ⟨g, cap, cur, hv, hb, r⟩ => ⟨g, cap, cur, hv, Nat.le_trans hN hb, r⟩⟩
theorem numG_len (f n : Nat) : (numG f n).length ≤ f + 1 := by
  induction f generalizing n with
  | zero => simp [numG]
  | succ f ih =>
    unfold numG
    split
    · simp
    · have := ih (n / 128)
      simp
      omega
theorem numB_len (n : Nat) : (numB n).length ≤ 11 := numG_len 10 n

set_option maxRecDepth 20000 in
set_option maxHeartbeats 4000000 in
theorem encode_any (c : Cmd) (w : World) (hp0 : -9223372036854775808 ≤ c.p) (hp1 : c.p ≤ 9223372036854775807) (hq0 : -9223372036854775808 ≤ c.q) (hq1 : c.q ≤ 9223372036854775807) :
    Calls Tryd.prog 225 #[.agg c.cells] w (EncIs c w) := by
  have HB := Lib.hid (Blk.new w c.cells 164 w.heap.size rfl)
  have HW := Lib.hid (show Below w.heap.size w (w.alloc (.cells c.cells 164)) from (Below.refl _ _).alloc (Nat.le_refl _) _)
  have HRC := Lib.hid (right_any c)
  cases hr : rightC c with
  | false =>
    have HF := Lib.hid hr
    rw [hr] at HRC
    obtain ⟨k, s, i, a, b, t, p, q, f⟩ := c
    unfold Cmd.cells at *
    clear hr
    go_enter Tryd.func225, Tryd.ntmps225
    go_wp2_with fail
    refine (HRC.out _).mono ?_
    rintro e w1 ⟨rfl, hb1⟩
    go_wp2_with fail
    go_ret2
    exact .inr ⟨HF.out, rfl, HW.out.trans (hb1.mono (by simp))⟩
  | true =>
    have HF := Lib.hid hr
    have hin := right_in hr
    rw [hr] at HRC
    obtain ⟨k, s, i, a, b, t, p, q, f⟩ := c
    dsimp only at hin hp0 hp1 hq0 hq1
    obtain ⟨hk, ⟨hs0, hs1⟩, ⟨hi0, hi1⟩, h1⟩ := hin
    obtain ⟨k, rfl⟩ : ∃ n : Nat, k = n := ⟨k.toNat, by omega⟩
    obtain ⟨s, rfl⟩ : ∃ n : Nat, s = n := ⟨s.toNat, by omega⟩
    obtain ⟨i, rfl⟩ : ∃ n : Nat, i = n := ⟨i.toNat, by omega⟩
    have hkb : IntKind.u8.wrap (k : Int) = (k : Int) := by rw [IntKind.wrap_u8]; omega
    have hsb : IntKind.u8.wrap (s : Int) = (s : Int) := by rw [IntKind.wrap_u8]; omega
    have hib : IntKind.u64.wrap (i : Int) = (i : Int) := by rw [IntKind.wrap_u64]; omega
    unfold Cmd.cells at *
    clear hr
    go_enter Tryd.func225, Tryd.ntmps225
    go_wp2_with fail
    refine (HRC.out _).mono ?_
    rintro e w1 ⟨rfl, hb1⟩
    replace HB := Lib.hid (HB.out.below hb1 HB.out.lt)
    replace HW := Lib.hid (HW.out.trans (hb1.mono (by simp)))
    clear hb1
    have hNP : w.heap.size ≤ w1.heap.size := HW.out.size
    have HWS := Lib.hid (show WS w.heap.size w1.heap.size [] (w1.alloc (.cells #[.slice none 0 0] 273)).drew from ⟨_, (Blk.new w1 #[.slice none 0 0] 273 w1.heap.size rfl), World.ownsRow_nil _ _ _ _⟩)
    go_wp2_with fail
    replace HB := Lib.hid (show Blk (w1.alloc (.cells #[.slice none 0 0] 273)).drew w.heap.size _ 164 from HB.out.old (.cells #[.slice none 0 0] 273))
    replace HW := Lib.hid (show Below w.heap.size w (w1.alloc (.cells #[.slice none 0 0] 273)).drew from (HW.out.alloc hNP (.cells #[.slice none 0 0] 273)).drew)
    refine wp_region_held_drew (S := (fun w' => w'.cell? ⟨w.heap.size, 0, none⟩ = some (.int .i64 k) ∧ w'.cell? ⟨w.heap.size, 1, none⟩ = some (.int .i64 s) ∧ w'.cell? ⟨w.heap.size, 2, none⟩ = some (.int .i64 i))) (by kernel_rfl) ⟨HB.out.cell 0 rfl, HB.out.cell 1 rfl, HB.out.cell 2 rfl⟩ (fun hHeld => ?_)
    generalize hP : w1.heap.size = P at *
    generalize (w1.alloc (.cells #[.slice none 0 0] 273)).drew = wd at HB HW HWS hHeld ⊢
    refine wpAnyH_take (i := 0) (oi := ⟨some 10, _, _, _, _, _⟩) (v := (.pointer (some ⟨P, 0, none⟩))) rfl (by kernel_rfl) (by kernel_rfl) (by kernel_rfl) (fun _ _ _ h => h) (Or.inl ⟨by rfl, fun w hSw => by (try dsimp only at hSw); go_simp⟩) (by assumption) ?_
    simp only [Act.put, List.setIfInBounds_toArray, List.set_cons_zero, List.set_cons_succ]
    refine wpAnyH_take (i := 1) (oi := ⟨some 11, _, _, _, _, _⟩) (v := (.pointer (some ⟨w.heap.size, 0, none⟩))) rfl (by kernel_rfl) (by kernel_rfl) (by kernel_rfl) (fun _ _ _ h => h) (Or.inl ⟨by rfl, fun w hSw => by (try dsimp only at hSw); go_simp⟩) (by assumption) ?_
    simp only [Act.put, List.setIfInBounds_toArray, List.set_cons_zero, List.set_cons_succ]
    refine wpAnyH_take (i := 2) (oi := ⟨some 12, _, _, _, _, _⟩) (v := (.int .i64 k)) rfl (by kernel_rfl) (by kernel_rfl) (by kernel_rfl) (fun _ _ _ h => h) (Or.inl ⟨by rfl, fun w hSw => by (try dsimp only at hSw); go_simp⟩) (by assumption) ?_
    simp only [Act.put, List.setIfInBounds_toArray, List.set_cons_zero, List.set_cons_succ]
    refine wpAnyH_take (i := 3) (oi := ⟨some 13, _, _, _, _, _⟩) (v := (.int .u8 k)) rfl (by kernel_rfl) (by kernel_rfl) (by kernel_rfl) (fun _ _ _ h => h) (Or.inl ⟨by rfl, fun w hSw => by (try dsimp only at hSw); go_simp⟩) (by assumption) ?_
    simp only [Act.put, List.setIfInBounds_toArray, List.set_cons_zero, List.set_cons_succ]
    refine wpAnyH_take (i := 4) (oi := ⟨some 14, _, _, _, _, _⟩) (v := (.pointer (some ⟨w.heap.size, 1, none⟩))) rfl (by kernel_rfl) (by kernel_rfl) (by kernel_rfl) (fun _ _ _ h => h) (Or.inl ⟨by rfl, fun w hSw => by (try dsimp only at hSw); go_simp⟩) (by assumption) ?_
    simp only [Act.put, List.setIfInBounds_toArray, List.set_cons_zero, List.set_cons_succ]
    refine wpAnyH_take (i := 5) (oi := ⟨some 15, _, _, _, _, _⟩) (v := (.int .i64 s)) rfl (by kernel_rfl) (by kernel_rfl) (by kernel_rfl) (fun _ _ _ h => h) (Or.inl ⟨by rfl, fun w hSw => by (try dsimp only at hSw); go_simp⟩) (by assumption) ?_
    simp only [Act.put, List.setIfInBounds_toArray, List.set_cons_zero, List.set_cons_succ]
    refine wpAnyH_take (i := 6) (oi := ⟨some 16, _, _, _, _, _⟩) (v := (.int .u8 s)) rfl (by kernel_rfl) (by kernel_rfl) (by kernel_rfl) (fun _ _ _ h => h) (Or.inl ⟨by rfl, fun w hSw => by (try dsimp only at hSw); go_simp⟩) (by assumption) ?_
    simp only [Act.put, List.setIfInBounds_toArray, List.set_cons_zero, List.set_cons_succ]
    refine wpAnyH_take (i := 9) (oi := ⟨some 19, _, _, _, _, _⟩) (v := (.pointer (some ⟨w.heap.size, 2, none⟩))) rfl (by kernel_rfl) (by kernel_rfl) (by kernel_rfl) (fun _ _ _ h => h) (Or.inl ⟨by rfl, fun w hSw => by (try dsimp only at hSw); go_simp⟩) (by assumption) ?_
    simp only [Act.put, List.setIfInBounds_toArray, List.set_cons_zero, List.set_cons_succ]
    refine wpAnyH_take (i := 10) (oi := ⟨some 20, _, _, _, _, _⟩) (v := (.int .i64 i)) rfl (by kernel_rfl) (by kernel_rfl) (by kernel_rfl) (fun _ _ _ h => h) (Or.inl ⟨by rfl, fun w hSw => by (try dsimp only at hSw); go_simp⟩) (by assumption) ?_
    simp only [Act.put, List.setIfInBounds_toArray, List.set_cons_zero, List.set_cons_succ]
    refine wpAnyH_take (i := 11) (oi := ⟨some 21, _, _, _, _, _⟩) (v := (.int .u64 i)) rfl (by kernel_rfl) (by kernel_rfl) (by kernel_rfl) (fun _ _ _ h => h) (Or.inl ⟨by rfl, fun w hSw => by (try dsimp only at hSw); go_simp⟩) (by assumption) ?_
    simp only [Act.put, List.setIfInBounds_toArray, List.set_cons_zero, List.set_cons_succ]
    refine wpAnyH_ready (rs := [7]) (by kernel_rfl) (by simp) ?_
    refine AllReadyH.cons (o := ⟨some 17, _, _, _, _, _⟩) rfl (fun KK hK => ?_) AllReadyH.nil
    go_simp
    change KK _ (wd.alloc (.cells #[.int .u8 k, .int .u8 s] 5))
    have HNB := Lib.hid (Blk.new wd #[.int .u8 (k : Int), .int .u8 (s : Int)] 5 wd.heap.size rfl)
    replace HB := Lib.hid (HB.out.old (.cells #[.int .u8 (k : Int), .int .u8 (s : Int)] 5))
    replace HW := Lib.hid (HW.out.alloc HW.out.size (.cells #[.int .u8 (k : Int), .int .u8 (s : Int)] 5))
    replace HWS := Lib.hid (ws_alloc HWS.out (.cells #[.int .u8 (k : Int), .int .u8 (s : Int)] 5))
    refine hK.out _ _ ⟨HB.out.cell 0 rfl, HB.out.cell 1 rfl, HB.out.cell 2 rfl⟩ (fun hHeld => ?_)
    clear hK; try clear KK
    try simp only [Act.put, List.setIfInBounds_toArray, List.set_cons_zero, List.set_cons_succ]
    refine wpAnyH_ready (rs := [8]) (by kernel_rfl) (by simp) ?_
    refine AllReadyH.cons (o := ⟨some 18, _, _, _, _, _⟩) rfl (fun KK hK => ?_) AllReadyH.nil
    go_simp
    refine (raw_any w.heap.size P hNP [] [k, s] (by simp) (by simp) (by simp) _ 2 _ HW.out.size HWS.out HNB.out).mono ?_
    rintro e w2 ⟨rfl, hws, hkp⟩
    clear HNB
    replace HB := Lib.hid (hkp.blk _ _ _ HB.out (by decide) (by decide))
    replace HW := Lib.hid (HW.out.trans hkp.bel)
    replace HWS := Lib.hid hws
    clear hws hkp
    go_wp2_with fail
    refine hK.out _ _ ⟨HB.out.cell 0 rfl, HB.out.cell 1 rfl, HB.out.cell 2 rfl⟩ (fun hHeld => ?_)
    clear hK; try clear KK
    try simp only [Act.put, List.setIfInBounds_toArray, List.set_cons_zero, List.set_cons_succ]
    refine wpAnyH_ready (rs := [12]) (by kernel_rfl) (by simp) ?_
    refine AllReadyH.cons (o := ⟨some 22, _, _, _, _, _⟩) rfl (fun KK hK => ?_) AllReadyH.nil
    go_simp
    refine (num_any w.heap.size P hNP _ (by simp) i (by omega) _ HW.out.size HWS.out).mono ?_
    rintro e w3 ⟨rfl, hws, hkp⟩
    replace HB := Lib.hid (hkp.blk _ _ _ HB.out (by decide) (by decide))
    replace HW := Lib.hid (HW.out.trans hkp.bel)
    replace HWS := Lib.hid hws
    clear hws hkp
    go_wp2_with fail
    refine hK.out _ _ ⟨HB.out.cell 0 rfl, HB.out.cell 1 rfl, HB.out.cell 2 rfl⟩ (fun hHeld => ?_)
    clear hK; try clear KK
    try simp only [Act.put, List.setIfInBounds_toArray, List.set_cons_zero, List.set_cons_succ]
    refine wpAnyH_done (by kernel_rfl) ?_ _
    have HL := Lib.hid (show ([] ++ [k, s] ++ numB i).length ≤ 20 by have := numB_len i; simp; omega)
    have HL0 := Lib.hid (show 0 < ([] ++ [k, s] ++ numB i).length by simp)
    have HLE := Lib.hid (show [] ++ [k, s] ++ numB i = [k, s] ++ numB i by simp)
    generalize [] ++ [k, s] ++ numB i = l at HWS HL HL0 HLE
    have c0 : w3.cell? ⟨w.heap.size, 0, none⟩ = some (.int .i64 k) := HB.out.cell 0 rfl
    by_cases hk1 : k = 1
    · subst hk1
      obtain ⟨⟨ha0, ha1⟩, ⟨hb0, hb1⟩, ⟨ht0, ht1⟩, hf0, hf1⟩ := h1 rfl
      obtain ⟨a, rfl⟩ : ∃ n : Nat, a = n := ⟨a.toNat, by omega⟩
      obtain ⟨b, rfl⟩ : ∃ n : Nat, b = n := ⟨b.toNat, by omega⟩
      obtain ⟨t, rfl⟩ : ∃ n : Nat, t = n := ⟨t.toNat, by omega⟩
      obtain ⟨f, rfl⟩ : ∃ n : Nat, f = n := ⟨f.toNat, by omega⟩
      have hab : IntKind.u64.wrap (a : Int) = (a : Int) := by rw [IntKind.wrap_u64]; omega
      have hbb : IntKind.u8.wrap (b : Int) = (b : Int) := by rw [IntKind.wrap_u8]; omega
      have htb : IntKind.u8.wrap (t : Int) = (t : Int) := by rw [IntKind.wrap_u8]; omega
      have hfb : IntKind.u8.wrap (f : Int) = (f : Int) := by rw [IntKind.wrap_u8]; omega
      clear h1 hk
      go_wp2_with fail
      replace HB := Lib.hid (show Blk w3.drew w.heap.size _ 164 from HB.out)
      replace HW := Lib.hid (show Below w.heap.size w w3.drew from HW.out.drew)
      replace HWS := Lib.hid (show WS w.heap.size P l w3.drew from HWS.out)
      refine wp_region_held_drew (S := (fun w' => w'.cell? ⟨w.heap.size, 3, none⟩ = some (.int .i64 a) ∧ w'.cell? ⟨w.heap.size, 4, none⟩ = some (.int .i64 b) ∧ w'.cell? ⟨w.heap.size, 5, none⟩ = some (.int .i64 t) ∧ w'.cell? ⟨w.heap.size, 8, none⟩ = some (.int .i64 f))) (by kernel_rfl) ⟨HB.out.cell 3 rfl, HB.out.cell 4 rfl, HB.out.cell 5 rfl, HB.out.cell 8 rfl⟩ (fun hHeld => ?_)
      clear c0
      generalize w3.drew = wd at HB HW HWS hHeld ⊢
      refine wpAnyH_take (i := 0) (oi := ⟨some 26, _, _, _, _, _⟩) (v := (.pointer (some ⟨P, 0, none⟩))) rfl (by kernel_rfl) (by kernel_rfl) (by kernel_rfl) (fun _ _ _ h => h) (Or.inl ⟨by rfl, fun w hSw => by (try dsimp only at hSw); go_simp⟩) (by assumption) ?_
      simp only [Act.put, List.setIfInBounds_toArray, List.set_cons_zero, List.set_cons_succ]
      refine wpAnyH_take (i := 1) (oi := ⟨some 27, _, _, _, _, _⟩) (v := (.pointer (some ⟨w.heap.size, 3, none⟩))) rfl (by kernel_rfl) (by kernel_rfl) (by kernel_rfl) (fun _ _ _ h => h) (Or.inl ⟨by rfl, fun w hSw => by (try dsimp only at hSw); go_simp⟩) (by assumption) ?_
      simp only [Act.put, List.setIfInBounds_toArray, List.set_cons_zero, List.set_cons_succ]
      refine wpAnyH_take (i := 2) (oi := ⟨some 28, _, _, _, _, _⟩) (v := (.int .i64 a)) rfl (by kernel_rfl) (by kernel_rfl) (by kernel_rfl) (fun _ _ _ h => h) (Or.inl ⟨by rfl, fun w hSw => by (try dsimp only at hSw); go_simp⟩) (by assumption) ?_
      simp only [Act.put, List.setIfInBounds_toArray, List.set_cons_zero, List.set_cons_succ]
      refine wpAnyH_take (i := 3) (oi := ⟨some 29, _, _, _, _, _⟩) (v := (.int .u64 a)) rfl (by kernel_rfl) (by kernel_rfl) (by kernel_rfl) (fun _ _ _ h => h) (Or.inl ⟨by rfl, fun w hSw => by (try dsimp only at hSw); go_simp⟩) (by assumption) ?_
      simp only [Act.put, List.setIfInBounds_toArray, List.set_cons_zero, List.set_cons_succ]
      refine wpAnyH_take (i := 5) (oi := ⟨some 31, _, _, _, _, _⟩) (v := (.pointer (some ⟨w.heap.size, 4, none⟩))) rfl (by kernel_rfl) (by kernel_rfl) (by kernel_rfl) (fun _ _ _ h => h) (Or.inl ⟨by rfl, fun w hSw => by (try dsimp only at hSw); go_simp⟩) (by assumption) ?_
      simp only [Act.put, List.setIfInBounds_toArray, List.set_cons_zero, List.set_cons_succ]
      refine wpAnyH_take (i := 6) (oi := ⟨some 32, _, _, _, _, _⟩) (v := (.int .i64 b)) rfl (by kernel_rfl) (by kernel_rfl) (by kernel_rfl) (fun _ _ _ h => h) (Or.inl ⟨by rfl, fun w hSw => by (try dsimp only at hSw); go_simp⟩) (by assumption) ?_
      simp only [Act.put, List.setIfInBounds_toArray, List.set_cons_zero, List.set_cons_succ]
      refine wpAnyH_take (i := 7) (oi := ⟨some 33, _, _, _, _, _⟩) (v := (.int .u8 b)) rfl (by kernel_rfl) (by kernel_rfl) (by kernel_rfl) (fun _ _ _ h => h) (Or.inl ⟨by rfl, fun w hSw => by (try dsimp only at hSw); go_simp⟩) (by assumption) ?_
      simp only [Act.put, List.setIfInBounds_toArray, List.set_cons_zero, List.set_cons_succ]
      refine wpAnyH_take (i := 8) (oi := ⟨some 34, _, _, _, _, _⟩) (v := (.pointer (some ⟨w.heap.size, 5, none⟩))) rfl (by kernel_rfl) (by kernel_rfl) (by kernel_rfl) (fun _ _ _ h => h) (Or.inl ⟨by rfl, fun w hSw => by (try dsimp only at hSw); go_simp⟩) (by assumption) ?_
      simp only [Act.put, List.setIfInBounds_toArray, List.set_cons_zero, List.set_cons_succ]
      refine wpAnyH_take (i := 9) (oi := ⟨some 35, _, _, _, _, _⟩) (v := (.int .i64 t)) rfl (by kernel_rfl) (by kernel_rfl) (by kernel_rfl) (fun _ _ _ h => h) (Or.inl ⟨by rfl, fun w hSw => by (try dsimp only at hSw); go_simp⟩) (by assumption) ?_
      simp only [Act.put, List.setIfInBounds_toArray, List.set_cons_zero, List.set_cons_succ]
      refine wpAnyH_take (i := 10) (oi := ⟨some 36, _, _, _, _, _⟩) (v := (.int .u8 t)) rfl (by kernel_rfl) (by kernel_rfl) (by kernel_rfl) (fun _ _ _ h => h) (Or.inl ⟨by rfl, fun w hSw => by (try dsimp only at hSw); go_simp⟩) (by assumption) ?_
      simp only [Act.put, List.setIfInBounds_toArray, List.set_cons_zero, List.set_cons_succ]
      refine wpAnyH_take (i := 11) (oi := ⟨some 37, _, _, _, _, _⟩) (v := (.pointer (some ⟨w.heap.size, 8, none⟩))) rfl (by kernel_rfl) (by kernel_rfl) (by kernel_rfl) (fun _ _ _ h => h) (Or.inl ⟨by rfl, fun w hSw => by (try dsimp only at hSw); go_simp⟩) (by assumption) ?_
      simp only [Act.put, List.setIfInBounds_toArray, List.set_cons_zero, List.set_cons_succ]
      refine wpAnyH_take (i := 12) (oi := ⟨some 38, _, _, _, _, _⟩) (v := (.int .i64 f)) rfl (by kernel_rfl) (by kernel_rfl) (by kernel_rfl) (fun _ _ _ h => h) (Or.inl ⟨by rfl, fun w hSw => by (try dsimp only at hSw); go_simp⟩) (by assumption) ?_
      simp only [Act.put, List.setIfInBounds_toArray, List.set_cons_zero, List.set_cons_succ]
      refine wpAnyH_take (i := 13) (oi := ⟨some 39, _, _, _, _, _⟩) (v := (.int .u8 f)) rfl (by kernel_rfl) (by kernel_rfl) (by kernel_rfl) (fun _ _ _ h => h) (Or.inl ⟨by rfl, fun w hSw => by (try dsimp only at hSw); go_simp⟩) (by assumption) ?_
      simp only [Act.put, List.setIfInBounds_toArray, List.set_cons_zero, List.set_cons_succ]
      refine wpAnyH_ready (rs := [4, 14]) (by kernel_rfl) (by simp) ?_
      refine AllReadyH.cons (o := ⟨some 30, _, _, _, _, _⟩) rfl (fun KK hK => ?_) (AllReadyH.cons (o := ⟨some 40, _, _, _, _, _⟩) rfl (fun KK hK => ?_) AllReadyH.nil)
      ·
        go_simp
        refine (num_any w.heap.size P hNP l (by have := HL.out; omega) a (by omega) _ HW.out.size HWS.out).mono ?_
        rintro e w4 ⟨rfl, hws, hkp⟩
        replace HB := Lib.hid (hkp.blk _ _ _ HB.out (by decide) (by decide))
        replace HW := Lib.hid (HW.out.trans hkp.bel)
        replace HWS := Lib.hid hws
        clear hws hkp
        go_wp2_with fail
        refine hK.out _ _ ⟨HB.out.cell 3 rfl, HB.out.cell 4 rfl, HB.out.cell 5 rfl, HB.out.cell 8 rfl⟩ (fun hHeld => ?_)
        clear hK; try clear KK
        try simp only [Act.put, List.setIfInBounds_toArray, List.set_cons_zero, List.set_cons_succ]
        refine wpAnyH_ready (rs := [14]) (by kernel_rfl) (by simp) ?_
        refine AllReadyH.cons (o := ⟨some 40, _, _, _, _, _⟩) rfl (fun KK hK => ?_) AllReadyH.nil
        go_simp
        change KK _ (World.alloc w4 (.cells #[.int .u8 (b : Int), .int .u8 (t : Int), .int .u8 (f : Int)] 5))
        have HNB := Lib.hid (Blk.new w4 #[.int .u8 (b : Int), .int .u8 (t : Int), .int .u8 (f : Int)] 5 (World.heap w4).size rfl)
        have HNR := Lib.hid (nr_new HWS.out (.cells #[.int .u8 (b : Int), .int .u8 (t : Int), .int .u8 (f : Int)] 5))
        replace HB := Lib.hid (HB.out.old (.cells #[.int .u8 (b : Int), .int .u8 (t : Int), .int .u8 (f : Int)] 5))
        replace HW := Lib.hid (HW.out.alloc HW.out.size (.cells #[.int .u8 (b : Int), .int .u8 (t : Int), .int .u8 (f : Int)] 5))
        replace HWS := Lib.hid (ws_alloc HWS.out (.cells #[.int .u8 (b : Int), .int .u8 (t : Int), .int .u8 (f : Int)] 5))
        refine hK.out _ _ ⟨HB.out.cell 3 rfl, HB.out.cell 4 rfl, HB.out.cell 5 rfl, HB.out.cell 8 rfl⟩ (fun hHeld => ?_)
        clear hK; try clear KK
        try simp only [Act.put, List.setIfInBounds_toArray, List.set_cons_zero, List.set_cons_succ]
        refine wpAnyH_ready (rs := [15]) (by kernel_rfl) (by simp) ?_
        refine AllReadyH.cons (o := ⟨some 41, _, _, _, _, _⟩) rfl (fun KK hK => ?_) AllReadyH.nil
        go_simp
        refine (raw_any w.heap.size P hNP _ [b, t, f] (by have := HL.out; have := numB_len a; rw [List.length_append]; omega) (by simp) (by simp) _ 3 _ HW.out.size HWS.out HNB.out).mono ?_
        rintro e w7 ⟨rfl, hws, hkp⟩
        clear HNB HNR
        replace HB := Lib.hid (hkp.blk _ _ _ HB.out (by decide) (by decide))
        replace HW := Lib.hid (HW.out.trans hkp.bel)
        replace HWS := Lib.hid hws
        clear hws hkp
        go_wp2_with fail
        refine hK.out _ _ ⟨HB.out.cell 3 rfl, HB.out.cell 4 rfl, HB.out.cell 5 rfl, HB.out.cell 8 rfl⟩ (fun hHeld => ?_)
        clear hK; try clear KK
        try simp only [Act.put, List.setIfInBounds_toArray, List.set_cons_zero, List.set_cons_succ]
        refine wpAnyH_done (by kernel_rfl) ?_ _
        have HL2 := Lib.hid (show (l ++ numB a ++ [b, t, f]).length ≤ 40 by have := HL.out; have := numB_len a; rw [List.length_append, List.length_append]; simp; omega)
        have HL20 := Lib.hid (show 0 < (l ++ numB a ++ [b, t, f]).length by simp; omega)
        have HLE2 := Lib.hid (show l ++ numB a ++ [b, t, f] = [1, s] ++ numB i ++ numB a ++ [b, t, f] by rw [HLE.out])
        clear HL HL0 HLE
        generalize l ++ numB a ++ [b, t, f] = l at HWS HL2 HL20 HLE2
        have HL := HL2
        have HL0 := HL20
        clear HL2 HL20
        have HF1 := Lib.hid (show formC ⟨((1 : Nat) : Int), s, i, a, b, t, p, q, f⟩ = l ++ beB 8 (zig p) ++ beB 8 (zig q) by rw [HLE2.out]; simp [formC])
        have c0 : w7.cell? ⟨w.heap.size, 0, none⟩ = some (.int .i64 ((1 : Nat) : Int)) := HB.out.cell 0 rfl
        go_wp2_with fail
        replace HB := Lib.hid (show Blk w7.drew w.heap.size _ 164 from HB.out)
        replace HW := Lib.hid (show Below w.heap.size w w7.drew from HW.out.drew)
        replace HWS := Lib.hid (show WS w.heap.size P l w7.drew from HWS.out)
        refine wp_region_held_drew (S := (fun w' => w'.cell? ⟨w.heap.size, 6, none⟩ = some (.int .i64 p) ∧ w'.cell? ⟨w.heap.size, 7, none⟩ = some (.int .i64 q))) (by kernel_rfl) ⟨HB.out.cell 6 rfl, HB.out.cell 7 rfl⟩ (fun hHeld => ?_)
        generalize w7.drew = wd at HB HW HWS hHeld ⊢
        refine wpAnyH_take (i := 0) (oi := ⟨some 45, _, _, _, _, _⟩) (v := (.pointer (some ⟨P, 0, none⟩))) rfl (by kernel_rfl) (by kernel_rfl) (by kernel_rfl) (fun _ _ _ h => h) (Or.inl ⟨by rfl, fun w hSw => by (try dsimp only at hSw); go_simp⟩) (by assumption) ?_
        simp only [Act.put, List.setIfInBounds_toArray, List.set_cons_zero, List.set_cons_succ]
        refine wpAnyH_take (i := 1) (oi := ⟨some 46, _, _, _, _, _⟩) (v := (.pointer (some ⟨w.heap.size, 6, none⟩))) rfl (by kernel_rfl) (by kernel_rfl) (by kernel_rfl) (fun _ _ _ h => h) (Or.inl ⟨by rfl, fun w hSw => by (try dsimp only at hSw); go_simp⟩) (by assumption) ?_
        simp only [Act.put, List.setIfInBounds_toArray, List.set_cons_zero, List.set_cons_succ]
        refine wpAnyH_take (i := 2) (oi := ⟨some 47, _, _, _, _, _⟩) (v := (.int .i64 p)) rfl (by kernel_rfl) (by kernel_rfl) (by kernel_rfl) (fun _ _ _ h => h) (Or.inl ⟨by rfl, fun w hSw => by (try dsimp only at hSw); go_simp⟩) (by assumption) ?_
        simp only [Act.put, List.setIfInBounds_toArray, List.set_cons_zero, List.set_cons_succ]
        refine wpAnyH_take (i := 4) (oi := ⟨some 49, _, _, _, _, _⟩) (v := (.pointer (some ⟨w.heap.size, 7, none⟩))) rfl (by kernel_rfl) (by kernel_rfl) (by kernel_rfl) (fun _ _ _ h => h) (Or.inl ⟨by rfl, fun w hSw => by (try dsimp only at hSw); go_simp⟩) (by assumption) ?_
        simp only [Act.put, List.setIfInBounds_toArray, List.set_cons_zero, List.set_cons_succ]
        refine wpAnyH_take (i := 5) (oi := ⟨some 50, _, _, _, _, _⟩) (v := (.int .i64 q)) rfl (by kernel_rfl) (by kernel_rfl) (by kernel_rfl) (fun _ _ _ h => h) (Or.inl ⟨by rfl, fun w hSw => by (try dsimp only at hSw); go_simp⟩) (by assumption) ?_
        simp only [Act.put, List.setIfInBounds_toArray, List.set_cons_zero, List.set_cons_succ]
        refine wpAnyH_ready (rs := [3]) (by kernel_rfl) (by simp) ?_
        refine AllReadyH.cons (o := ⟨some 48, _, _, _, _, _⟩) rfl (fun KK hK => ?_) AllReadyH.nil
        go_simp
        refine (int_any w.heap.size P hNP l (by have := HL.out; omega) p hp0 hp1 _ HW.out.size HWS.out).mono ?_
        rintro e w5 ⟨rfl, hws, hkp⟩
        replace HB := Lib.hid (hkp.blk _ _ _ HB.out (by decide) (by decide))
        replace HW := Lib.hid (HW.out.trans hkp.bel)
        replace HWS := Lib.hid hws
        clear hws hkp
        go_wp2_with fail
        refine hK.out _ _ ⟨HB.out.cell 6 rfl, HB.out.cell 7 rfl⟩ (fun hHeld => ?_)
        clear hK; try clear KK
        try simp only [Act.put, List.setIfInBounds_toArray, List.set_cons_zero, List.set_cons_succ]
        refine wpAnyH_ready (rs := [6]) (by kernel_rfl) (by simp) ?_
        refine AllReadyH.cons (o := ⟨some 51, _, _, _, _, _⟩) rfl (fun KK hK => ?_) AllReadyH.nil
        go_simp
        refine (int_any w.heap.size P hNP _ (by have := HL.out; have := beB_len 8 (zig p); rw [List.length_append]; omega) q hq0 hq1 _ HW.out.size HWS.out).mono ?_
        rintro e w6 ⟨rfl, hws, hkp⟩
        replace HB := Lib.hid (hkp.blk _ _ _ HB.out (by decide) (by decide))
        replace HW := Lib.hid (HW.out.trans hkp.bel)
        replace HWS := Lib.hid hws
        clear hws hkp
        go_wp2_with fail
        refine hK.out _ _ ⟨HB.out.cell 6 rfl, HB.out.cell 7 rfl⟩ (fun hHeld => ?_)
        clear hK; try clear KK
        try simp only [Act.put, List.setIfInBounds_toArray, List.set_cons_zero, List.set_cons_succ]
        refine wpAnyH_done (by kernel_rfl) ?_ _
        have HL2 := Lib.hid (show (l ++ beB 8 (zig p) ++ beB 8 (zig q)).length ≤ 100 by have := HL.out; have := beB_len 8 (zig p); have := beB_len 8 (zig q); rw [List.length_append, List.length_append]; omega)
        have HL3 := Lib.hid (show 0 < (l ++ beB 8 (zig p) ++ beB 8 (zig q)).length by have := HL0.out; rw [List.length_append, List.length_append]; omega)
        rw [← HF1.out] at HWS HL2 HL3
        go_wp2_with fail
        refine (bytes_any w.heap.size P _ HL3.out (by have := HL2.out; omega) _ HWS.out).mono ?_
        rintro e w9 ⟨v, rfl, hv, hb⟩
        go_wp2_with fail
        go_ret2
        exact .inl ⟨HF.out, _, rfl, own_mono hv HW.out.size, HW.out.trans (hb.mono HW.out.size)⟩
      ·
        go_simp
        change KK _ (World.alloc wd (.cells #[.int .u8 (b : Int), .int .u8 (t : Int), .int .u8 (f : Int)] 5))
        have HNB := Lib.hid (Blk.new wd #[.int .u8 (b : Int), .int .u8 (t : Int), .int .u8 (f : Int)] 5 (World.heap wd).size rfl)
        have HNR := Lib.hid (nr_new HWS.out (.cells #[.int .u8 (b : Int), .int .u8 (t : Int), .int .u8 (f : Int)] 5))
        replace HB := Lib.hid (HB.out.old (.cells #[.int .u8 (b : Int), .int .u8 (t : Int), .int .u8 (f : Int)] 5))
        replace HW := Lib.hid (HW.out.alloc HW.out.size (.cells #[.int .u8 (b : Int), .int .u8 (t : Int), .int .u8 (f : Int)] 5))
        replace HWS := Lib.hid (ws_alloc HWS.out (.cells #[.int .u8 (b : Int), .int .u8 (t : Int), .int .u8 (f : Int)] 5))
        refine hK.out _ _ ⟨HB.out.cell 3 rfl, HB.out.cell 4 rfl, HB.out.cell 5 rfl, HB.out.cell 8 rfl⟩ (fun hHeld => ?_)
        clear hK; try clear KK
        try simp only [Act.put, List.setIfInBounds_toArray, List.set_cons_zero, List.set_cons_succ]
        refine wpAnyH_ready (rs := [4]) (by kernel_rfl) (by simp) ?_
        refine AllReadyH.cons (o := ⟨some 30, _, _, _, _, _⟩) rfl (fun KK hK => ?_) AllReadyH.nil
        go_simp
        refine (num_any w.heap.size P hNP l (by have := HL.out; omega) a (by omega) _ HW.out.size HWS.out).mono ?_
        rintro e w4 ⟨rfl, hws, hkp⟩
        replace HNB := Lib.hid (show Blk w4 wd.heap.size #[.int .u8 (b : Int), .int .u8 (t : Int), .int .u8 (f : Int)] 5 from ((hkp.apart _ HNB.out.lt HNR.out).2).trans HNB.out)
        replace HB := Lib.hid (hkp.blk _ _ _ HB.out (by decide) (by decide))
        replace HW := Lib.hid (HW.out.trans hkp.bel)
        replace HWS := Lib.hid hws
        clear hws hkp
        go_wp2_with fail
        refine hK.out _ _ ⟨HB.out.cell 3 rfl, HB.out.cell 4 rfl, HB.out.cell 5 rfl, HB.out.cell 8 rfl⟩ (fun hHeld => ?_)
        clear hK; try clear KK
        try simp only [Act.put, List.setIfInBounds_toArray, List.set_cons_zero, List.set_cons_succ]
        refine wpAnyH_ready (rs := [15]) (by kernel_rfl) (by simp) ?_
        refine AllReadyH.cons (o := ⟨some 41, _, _, _, _, _⟩) rfl (fun KK hK => ?_) AllReadyH.nil
        go_simp
        refine (raw_any w.heap.size P hNP _ [b, t, f] (by have := HL.out; have := numB_len a; rw [List.length_append]; omega) (by simp) (by simp) _ 3 _ HW.out.size HWS.out HNB.out).mono ?_
        rintro e w7 ⟨rfl, hws, hkp⟩
        clear HNB HNR
        replace HB := Lib.hid (hkp.blk _ _ _ HB.out (by decide) (by decide))
        replace HW := Lib.hid (HW.out.trans hkp.bel)
        replace HWS := Lib.hid hws
        clear hws hkp
        go_wp2_with fail
        refine hK.out _ _ ⟨HB.out.cell 3 rfl, HB.out.cell 4 rfl, HB.out.cell 5 rfl, HB.out.cell 8 rfl⟩ (fun hHeld => ?_)
        clear hK; try clear KK
        try simp only [Act.put, List.setIfInBounds_toArray, List.set_cons_zero, List.set_cons_succ]
        refine wpAnyH_done (by kernel_rfl) ?_ _
        have HL2 := Lib.hid (show (l ++ numB a ++ [b, t, f]).length ≤ 40 by have := HL.out; have := numB_len a; rw [List.length_append, List.length_append]; simp; omega)
        have HL20 := Lib.hid (show 0 < (l ++ numB a ++ [b, t, f]).length by simp; omega)
        have HLE2 := Lib.hid (show l ++ numB a ++ [b, t, f] = [1, s] ++ numB i ++ numB a ++ [b, t, f] by rw [HLE.out])
        clear HL HL0 HLE
        generalize l ++ numB a ++ [b, t, f] = l at HWS HL2 HL20 HLE2
        have HL := HL2
        have HL0 := HL20
        clear HL2 HL20
        have HF1 := Lib.hid (show formC ⟨((1 : Nat) : Int), s, i, a, b, t, p, q, f⟩ = l ++ beB 8 (zig p) ++ beB 8 (zig q) by rw [HLE2.out]; simp [formC])
        have c0 : w7.cell? ⟨w.heap.size, 0, none⟩ = some (.int .i64 ((1 : Nat) : Int)) := HB.out.cell 0 rfl
        go_wp2_with fail
        replace HB := Lib.hid (show Blk w7.drew w.heap.size _ 164 from HB.out)
        replace HW := Lib.hid (show Below w.heap.size w w7.drew from HW.out.drew)
        replace HWS := Lib.hid (show WS w.heap.size P l w7.drew from HWS.out)
        refine wp_region_held_drew (S := (fun w' => w'.cell? ⟨w.heap.size, 6, none⟩ = some (.int .i64 p) ∧ w'.cell? ⟨w.heap.size, 7, none⟩ = some (.int .i64 q))) (by kernel_rfl) ⟨HB.out.cell 6 rfl, HB.out.cell 7 rfl⟩ (fun hHeld => ?_)
        generalize w7.drew = wd at HB HW HWS hHeld ⊢
        refine wpAnyH_take (i := 0) (oi := ⟨some 45, _, _, _, _, _⟩) (v := (.pointer (some ⟨P, 0, none⟩))) rfl (by kernel_rfl) (by kernel_rfl) (by kernel_rfl) (fun _ _ _ h => h) (Or.inl ⟨by rfl, fun w hSw => by (try dsimp only at hSw); go_simp⟩) (by assumption) ?_
        simp only [Act.put, List.setIfInBounds_toArray, List.set_cons_zero, List.set_cons_succ]
        refine wpAnyH_take (i := 1) (oi := ⟨some 46, _, _, _, _, _⟩) (v := (.pointer (some ⟨w.heap.size, 6, none⟩))) rfl (by kernel_rfl) (by kernel_rfl) (by kernel_rfl) (fun _ _ _ h => h) (Or.inl ⟨by rfl, fun w hSw => by (try dsimp only at hSw); go_simp⟩) (by assumption) ?_
        simp only [Act.put, List.setIfInBounds_toArray, List.set_cons_zero, List.set_cons_succ]
        refine wpAnyH_take (i := 2) (oi := ⟨some 47, _, _, _, _, _⟩) (v := (.int .i64 p)) rfl (by kernel_rfl) (by kernel_rfl) (by kernel_rfl) (fun _ _ _ h => h) (Or.inl ⟨by rfl, fun w hSw => by (try dsimp only at hSw); go_simp⟩) (by assumption) ?_
        simp only [Act.put, List.setIfInBounds_toArray, List.set_cons_zero, List.set_cons_succ]
        refine wpAnyH_take (i := 4) (oi := ⟨some 49, _, _, _, _, _⟩) (v := (.pointer (some ⟨w.heap.size, 7, none⟩))) rfl (by kernel_rfl) (by kernel_rfl) (by kernel_rfl) (fun _ _ _ h => h) (Or.inl ⟨by rfl, fun w hSw => by (try dsimp only at hSw); go_simp⟩) (by assumption) ?_
        simp only [Act.put, List.setIfInBounds_toArray, List.set_cons_zero, List.set_cons_succ]
        refine wpAnyH_take (i := 5) (oi := ⟨some 50, _, _, _, _, _⟩) (v := (.int .i64 q)) rfl (by kernel_rfl) (by kernel_rfl) (by kernel_rfl) (fun _ _ _ h => h) (Or.inl ⟨by rfl, fun w hSw => by (try dsimp only at hSw); go_simp⟩) (by assumption) ?_
        simp only [Act.put, List.setIfInBounds_toArray, List.set_cons_zero, List.set_cons_succ]
        refine wpAnyH_ready (rs := [3]) (by kernel_rfl) (by simp) ?_
        refine AllReadyH.cons (o := ⟨some 48, _, _, _, _, _⟩) rfl (fun KK hK => ?_) AllReadyH.nil
        go_simp
        refine (int_any w.heap.size P hNP l (by have := HL.out; omega) p hp0 hp1 _ HW.out.size HWS.out).mono ?_
        rintro e w5 ⟨rfl, hws, hkp⟩
        replace HB := Lib.hid (hkp.blk _ _ _ HB.out (by decide) (by decide))
        replace HW := Lib.hid (HW.out.trans hkp.bel)
        replace HWS := Lib.hid hws
        clear hws hkp
        go_wp2_with fail
        refine hK.out _ _ ⟨HB.out.cell 6 rfl, HB.out.cell 7 rfl⟩ (fun hHeld => ?_)
        clear hK; try clear KK
        try simp only [Act.put, List.setIfInBounds_toArray, List.set_cons_zero, List.set_cons_succ]
        refine wpAnyH_ready (rs := [6]) (by kernel_rfl) (by simp) ?_
        refine AllReadyH.cons (o := ⟨some 51, _, _, _, _, _⟩) rfl (fun KK hK => ?_) AllReadyH.nil
        go_simp
        refine (int_any w.heap.size P hNP _ (by have := HL.out; have := beB_len 8 (zig p); rw [List.length_append]; omega) q hq0 hq1 _ HW.out.size HWS.out).mono ?_
        rintro e w6 ⟨rfl, hws, hkp⟩
        replace HB := Lib.hid (hkp.blk _ _ _ HB.out (by decide) (by decide))
        replace HW := Lib.hid (HW.out.trans hkp.bel)
        replace HWS := Lib.hid hws
        clear hws hkp
        go_wp2_with fail
        refine hK.out _ _ ⟨HB.out.cell 6 rfl, HB.out.cell 7 rfl⟩ (fun hHeld => ?_)
        clear hK; try clear KK
        try simp only [Act.put, List.setIfInBounds_toArray, List.set_cons_zero, List.set_cons_succ]
        refine wpAnyH_done (by kernel_rfl) ?_ _
        have HL2 := Lib.hid (show (l ++ beB 8 (zig p) ++ beB 8 (zig q)).length ≤ 100 by have := HL.out; have := beB_len 8 (zig p); have := beB_len 8 (zig q); rw [List.length_append, List.length_append]; omega)
        have HL3 := Lib.hid (show 0 < (l ++ beB 8 (zig p) ++ beB 8 (zig q)).length by have := HL0.out; rw [List.length_append, List.length_append]; omega)
        rw [← HF1.out] at HWS HL2 HL3
        go_wp2_with fail
        refine (bytes_any w.heap.size P _ HL3.out (by have := HL2.out; omega) _ HWS.out).mono ?_
        rintro e w9 ⟨v, rfl, hv, hb⟩
        go_wp2_with fail
        go_ret2
        exact .inl ⟨HF.out, _, rfl, own_mono hv HW.out.size, HW.out.trans (hb.mono HW.out.size)⟩
    · have g1 : ((k : Int) == 1) = false := by simp; omega
      by_cases hk2 : k = 2
      · subst hk2
        have HF1 := Lib.hid (show formC ⟨((2 : Nat) : Int), s, i, a, b, t, p, q, f⟩ = l by rw [HLE.out]; simp [formC])
        clear h1 hk hk1
        go_wp2_with fail
        refine (bytes_any w.heap.size P l HL0.out (by have := HL.out; omega) _ HWS.out).mono ?_
        rintro e w9 ⟨v, rfl, hv, hb⟩
        go_wp2_with fail
        go_ret2
        exact .inl ⟨HF.out, _, rfl, by rw [HF1.out]; exact own_mono hv HW.out.size, HW.out.trans (hb.mono HW.out.size)⟩
      · have g2 : ((k : Int) != 2) = true := by simp; omega
        have h1' : ¬ (k : Int) = 1 := by omega
        have h2' : ¬ (k : Int) = 2 := by omega
        have HF1 := Lib.hid (show formC ⟨(k : Int), s, i, a, b, t, p, q, f⟩ = l ++ beB 8 (zig p) ++ beB 8 (zig q) by rw [HLE.out]; simp [formC, h1', h2'])
        clear h1' h2'
        clear h1 hk hk1 hk2
        replace HL := Lib.hid (show l.length ≤ 40 by have := HL.out; omega)
        go_wp2_with fail
        replace HB := Lib.hid (show Blk w3.drew w.heap.size _ 164 from HB.out)
        replace HW := Lib.hid (show Below w.heap.size w w3.drew from HW.out.drew)
        replace HWS := Lib.hid (show WS w.heap.size P l w3.drew from HWS.out)
        refine wp_region_held_drew (S := (fun w' => w'.cell? ⟨w.heap.size, 6, none⟩ = some (.int .i64 p) ∧ w'.cell? ⟨w.heap.size, 7, none⟩ = some (.int .i64 q))) (by kernel_rfl) ⟨HB.out.cell 6 rfl, HB.out.cell 7 rfl⟩ (fun hHeld => ?_)
        generalize w3.drew = wd at HB HW HWS hHeld ⊢
        refine wpAnyH_take (i := 0) (oi := ⟨some 45, _, _, _, _, _⟩) (v := (.pointer (some ⟨P, 0, none⟩))) rfl (by kernel_rfl) (by kernel_rfl) (by kernel_rfl) (fun _ _ _ h => h) (Or.inl ⟨by rfl, fun w hSw => by (try dsimp only at hSw); go_simp⟩) (by assumption) ?_
        simp only [Act.put, List.setIfInBounds_toArray, List.set_cons_zero, List.set_cons_succ]
        refine wpAnyH_take (i := 1) (oi := ⟨some 46, _, _, _, _, _⟩) (v := (.pointer (some ⟨w.heap.size, 6, none⟩))) rfl (by kernel_rfl) (by kernel_rfl) (by kernel_rfl) (fun _ _ _ h => h) (Or.inl ⟨by rfl, fun w hSw => by (try dsimp only at hSw); go_simp⟩) (by assumption) ?_
        simp only [Act.put, List.setIfInBounds_toArray, List.set_cons_zero, List.set_cons_succ]
        refine wpAnyH_take (i := 2) (oi := ⟨some 47, _, _, _, _, _⟩) (v := (.int .i64 p)) rfl (by kernel_rfl) (by kernel_rfl) (by kernel_rfl) (fun _ _ _ h => h) (Or.inl ⟨by rfl, fun w hSw => by (try dsimp only at hSw); go_simp⟩) (by assumption) ?_
        simp only [Act.put, List.setIfInBounds_toArray, List.set_cons_zero, List.set_cons_succ]
        refine wpAnyH_take (i := 4) (oi := ⟨some 49, _, _, _, _, _⟩) (v := (.pointer (some ⟨w.heap.size, 7, none⟩))) rfl (by kernel_rfl) (by kernel_rfl) (by kernel_rfl) (fun _ _ _ h => h) (Or.inl ⟨by rfl, fun w hSw => by (try dsimp only at hSw); go_simp⟩) (by assumption) ?_
        simp only [Act.put, List.setIfInBounds_toArray, List.set_cons_zero, List.set_cons_succ]
        refine wpAnyH_take (i := 5) (oi := ⟨some 50, _, _, _, _, _⟩) (v := (.int .i64 q)) rfl (by kernel_rfl) (by kernel_rfl) (by kernel_rfl) (fun _ _ _ h => h) (Or.inl ⟨by rfl, fun w hSw => by (try dsimp only at hSw); go_simp⟩) (by assumption) ?_
        simp only [Act.put, List.setIfInBounds_toArray, List.set_cons_zero, List.set_cons_succ]
        refine wpAnyH_ready (rs := [3]) (by kernel_rfl) (by simp) ?_
        refine AllReadyH.cons (o := ⟨some 48, _, _, _, _, _⟩) rfl (fun KK hK => ?_) AllReadyH.nil
        go_simp
        refine (int_any w.heap.size P hNP l (by have := HL.out; omega) p hp0 hp1 _ HW.out.size HWS.out).mono ?_
        rintro e w5 ⟨rfl, hws, hkp⟩
        replace HB := Lib.hid (hkp.blk _ _ _ HB.out (by decide) (by decide))
        replace HW := Lib.hid (HW.out.trans hkp.bel)
        replace HWS := Lib.hid hws
        clear hws hkp
        go_wp2_with fail
        refine hK.out _ _ ⟨HB.out.cell 6 rfl, HB.out.cell 7 rfl⟩ (fun hHeld => ?_)
        clear hK; try clear KK
        try simp only [Act.put, List.setIfInBounds_toArray, List.set_cons_zero, List.set_cons_succ]
        refine wpAnyH_ready (rs := [6]) (by kernel_rfl) (by simp) ?_
        refine AllReadyH.cons (o := ⟨some 51, _, _, _, _, _⟩) rfl (fun KK hK => ?_) AllReadyH.nil
        go_simp
        refine (int_any w.heap.size P hNP _ (by have := HL.out; have := beB_len 8 (zig p); rw [List.length_append]; omega) q hq0 hq1 _ HW.out.size HWS.out).mono ?_
        rintro e w6 ⟨rfl, hws, hkp⟩
        replace HB := Lib.hid (hkp.blk _ _ _ HB.out (by decide) (by decide))
        replace HW := Lib.hid (HW.out.trans hkp.bel)
        replace HWS := Lib.hid hws
        clear hws hkp
        go_wp2_with fail
        refine hK.out _ _ ⟨HB.out.cell 6 rfl, HB.out.cell 7 rfl⟩ (fun hHeld => ?_)
        clear hK; try clear KK
        try simp only [Act.put, List.setIfInBounds_toArray, List.set_cons_zero, List.set_cons_succ]
        refine wpAnyH_done (by kernel_rfl) ?_ _
        have HL2 := Lib.hid (show (l ++ beB 8 (zig p) ++ beB 8 (zig q)).length ≤ 100 by have := HL.out; have := beB_len 8 (zig p); have := beB_len 8 (zig q); rw [List.length_append, List.length_append]; omega)
        have HL3 := Lib.hid (show 0 < (l ++ beB 8 (zig p) ++ beB 8 (zig q)).length by have := HL0.out; rw [List.length_append, List.length_append]; omega)
        rw [← HF1.out] at HWS HL2 HL3
        go_wp2_with fail
        refine (bytes_any w.heap.size P _ HL3.out (by have := HL2.out; omega) _ HWS.out).mono ?_
        rintro e w9 ⟨v, rfl, hv, hb⟩
        go_wp2_with fail
        go_ret2
        exact .inl ⟨HF.out, _, rfl, own_mono hv HW.out.size, HW.out.trans (hb.mono HW.out.size)⟩
end Go.Proofs.YtmkcooamgojbpaaDoor.Cmds

/- Numbers read of bytes: plain lists. -/
namespace Go.Proofs.YtmkcooamgojbpaaDoor.Octets
set_option linter.unusedVariables false

/-- What a reading comes to: a fault, or what was read and what is left. -/
inductive Rd (α : Type) where
  | bad (f : Int) : Rd α
  | ok (x : α) (l : List Nat) : Rd α
def beV (l : List Nat) : Nat := l.foldl (fun a b => a * 256 + b) 0
def uintR (k : Nat) (l : List Nat) : Rd Nat := if l.length < k then .bad 3 else .ok (beV (l.take k)) (l.drop k)
def zag (n : Nat) : Int := if n % 2 = 0 then (n / 2 : Nat) else -((n / 2 : Nat) : Int) - 1
def numR : Nat → Nat → List Nat → Rd Nat
  | i, _, [] => if 10 ≤ i then .bad 4 else .bad 3
  | i, n, b :: l =>
    if 10 ≤ i then .bad 4
    else if i = 9 ∧ 1 < b % 128 then .bad 4
    else if b < 128 then (if b % 128 = 0 ∧ 0 < i then .bad 4 else .ok (n + b % 128 * 128 ^ i) l)
    else numR (i + 1) (n + b % 128 * 128 ^ i) l
theorem zag_zig (n : Int) : zag (zig n) = n := by unfold zag zig; split <;> split <;> omega
theorem zig_zag (n : Nat) : zig (zag n) = n := by
  unfold zag
  split
  · unfold zig; split <;> omega
  · unfold zig; split <;> omega
theorem zag_in {n : Nat} (h : n < 18446744073709551616) : -9223372036854775808 ≤ zag n ∧ zag n ≤ 9223372036854775807 := by unfold zag; split <;> omega
theorem beV_snoc (l : List Nat) (b : Nat) : beV (l ++ [b]) = beV l * 256 + b := by simp [beV, List.foldl_append]
theorem beV_foldl (l : List Nat) : ∀ a, l.foldl (fun a b => a * 256 + b) a = a * 256 ^ l.length + beV l := by
  induction l with
  | nil => intro a; simp [beV]
  | cons b l ih =>
    intro a
    have h1 := ih (a * 256 + b)
    have h2 := ih b
    rw [List.foldl_cons, h1]
    have : beV (b :: l) = b * 256 ^ l.length + beV l := by
      have : beV (b :: l) = l.foldl (fun a b => a * 256 + b) (0 * 256 + b) := rfl
      rw [this, Nat.zero_mul, Nat.zero_add, h2]
    rw [this, List.length_cons, Nat.pow_succ, Nat.add_mul, Nat.mul_assoc, Nat.mul_comm 256, Nat.add_assoc]
theorem beV_cons (b : Nat) (l : List Nat) : beV (b :: l) = b * 256 ^ l.length + beV l := by
  have h2 := beV_foldl l b
  have : beV (b :: l) = l.foldl (fun a b => a * 256 + b) (0 * 256 + b) := rfl
  rw [this, Nat.zero_mul, Nat.zero_add, h2]
theorem beV_lt (l : List Nat) (h : ∀ b ∈ l, b < 256) : beV l < 256 ^ l.length := by
  induction l with
  | nil => simp [beV]
  | cons b l ih =>
    rw [beV_cons, List.length_cons, Nat.pow_succ]
    have h1 := ih (fun c hc => h c (List.mem_cons_of_mem _ hc))
    have h2 := h b List.mem_cons_self
    have : b * 256 ^ l.length ≤ 255 * 256 ^ l.length := Nat.mul_le_mul_right _ (by omega)
    omega
theorem beB_beV (l : List Nat) (h : ∀ b ∈ l, b < 256) : ∀ m, beB l.length (m * 256 ^ l.length + beV l) = l := by
  induction l with
  | nil => intro m; rfl
  | cons b l ih =>
    intro m
    have hl : ∀ c ∈ l, c < 256 := fun c hc => h c (List.mem_cons_of_mem _ hc)
    have h1 := beV_lt l hl
    have h2 := h b List.mem_cons_self
    have hp : 0 < 256 ^ l.length := Nat.pow_pos (by omega)
    rw [List.length_cons, beB, beV_cons]
    have e : m * 256 ^ (l.length + 1) + (b * 256 ^ l.length + beV l) = (m * 256 + b) * 256 ^ l.length + beV l := by
      rw [Nat.pow_succ, Nat.add_mul, Nat.mul_assoc, Nat.mul_comm 256, Nat.add_assoc]
    rw [e, ih hl (m * 256 + b)]
    congr 1
    rw [Nat.add_comm, Nat.add_mul_div_right _ _ hp, Nat.div_eq_of_lt h1]
    omega
theorem be_of {k : Nat} {l : List Nat} (hk : l.length = k) (h : ∀ b ∈ l, b < 256) : beB k (beV l) = l := by
  subst hk
  have := beB_beV l h 0
  rwa [Nat.zero_mul, Nat.zero_add] at this
theorem beB_byte (k n : Nat) : ∀ b ∈ beB k n, b < 256 := by
  induction k with
  | zero => intro b hb; simp [beB] at hb
  | succ k ih =>
    intro b hb
    rw [beB] at hb
    rcases List.mem_cons.1 hb with rfl | hb
    · omega
    · exact ih b hb
theorem beV_beB (k n : Nat) : beV (beB k n) = n % 256 ^ k := by
  induction k with
  | zero => simp [beB, beV, Nat.mod_one]
  | succ k ih =>
    rw [beB, beV_cons, ih, beB_len, Nat.pow_succ]
    have := Nat.mod_mul (x := n) (a := 256 ^ k) (b := 256)
    rw [this, Nat.mul_comm, Nat.add_comm]
theorem uintR_be {k n : Nat} (h : n < 256 ^ k) (l : List Nat) : uintR k (beB k n ++ l) = .ok n l := by
  unfold uintR
  have hl := beB_len k n
  rw [if_neg (by simp [hl]), List.take_append_of_le_length (by omega), List.take_of_length_le (by omega), beV_beB, Nat.mod_eq_of_lt h, List.drop_append_of_le_length (by omega), List.drop_of_length_le (by omega), List.nil_append]
theorem uintR_of {k n : Nat} {l l' : List Nat} (hb : ∀ b ∈ l, b < 256) (h : uintR k l = .ok n l') : l = beB k n ++ l' ∧ n < 256 ^ k := by
  unfold uintR at h
  split at h
  · cases h
  · rename_i hl
    injection h with h1 h2
    subst h1 h2
    have e : (l.take k).length = k := by rw [List.length_take]; omega
    have hb' : ∀ b ∈ l.take k, b < 256 := fun b hm => hb b (List.mem_of_mem_take hm)
    rw [be_of e hb', List.take_append_drop]
    refine ⟨rfl, ?_⟩
    have := beV_lt _ hb'
    rwa [e] at this
theorem ten (i : Nat) (h : i ≤ 9) : i = 0 ∨ i = 1 ∨ i = 2 ∨ i = 3 ∨ i = 4 ∨ i = 5 ∨ i = 6 ∨ i = 7 ∨ i = 8 ∨ i = 9 := by omega
theorem numR_num : ∀ (f i a n : Nat) (l : List Nat), i + f = 10 → i ≤ 9 → n * 128 ^ i < 18446744073709551616 → (0 < i → 0 < n) → numR i a (numG f n ++ l) = .ok (a + n * 128 ^ i) l := by
  intro f
  induction f with
  | zero => intro i a n l h1 h2; omega
  | succ f ih =>
    intro i a n l h1 h2 h3 h4
    have h9 : i = 9 → n < 2 := fun e => by subst e; omega
    by_cases hn : n < 128
    · rw [numG, if_pos hn, List.singleton_append, numR, if_neg (by omega), if_neg (by omega), if_pos hn, if_neg (by omega), Nat.mod_eq_of_lt hn]
    · rw [numG, if_neg hn, List.cons_append, numR, if_neg (by omega), if_neg (by omega), if_neg (by omega)]
      have e1 : (n % 128 + 128) % 128 = n % 128 := by omega
      have e2 : n / 128 * 128 ^ (i + 1) = n / 128 * 128 * 128 ^ i := by rw [Nat.pow_succ, Nat.mul_comm (128 ^ i) 128, Nat.mul_assoc]
      have h5 : n / 128 * 128 * 128 ^ i ≤ n * 128 ^ i := Nat.mul_le_mul_right _ (by omega)
      have hi9 : i ≠ 9 := fun e => by have := h9 e; omega
      rw [e1, ih (i + 1) _ (n / 128) l (by omega) (by omega) (by rw [e2]; omega) (fun _ => by omega)]
      congr 1
      rw [e2, Nat.add_assoc, ← Nat.add_mul]
      congr 2
      omega
theorem room_up {x n P Q M : Nat} (hx : x < 128) (hM : M = Q * (128 * P)) (h : n * (128 * P) < M) : (x + n * 128) * P < M := by
  subst hM
  have h1 : n < Q := Nat.lt_of_mul_lt_mul_right h
  rcases Nat.eq_zero_or_pos P with h0 | h0
  · subst h0; simp at h
  · have h2 : (x + n * 128) * P < (Q * 128) * P := (Nat.mul_lt_mul_right h0).2 (by omega)
    rwa [Nat.mul_assoc] at h2
theorem room (i : Nat) (h : i ≤ 8) : ∃ Q, 18446744073709551616 = Q * (128 * 128 ^ i) := by
  have : i = 0 ∨ i = 1 ∨ i = 2 ∨ i = 3 ∨ i = 4 ∨ i = 5 ∨ i = 6 ∨ i = 7 ∨ i = 8 := by omega
  rcases this with rfl | rfl | rfl | rfl | rfl | rfl | rfl | rfl | rfl
  · exact ⟨144115188075855872, by decide⟩
  · exact ⟨1125899906842624, by decide⟩
  · exact ⟨8796093022208, by decide⟩
  · exact ⟨68719476736, by decide⟩
  · exact ⟨536870912, by decide⟩
  · exact ⟨4194304, by decide⟩
  · exact ⟨32768, by decide⟩
  · exact ⟨256, by decide⟩
  · exact ⟨2, by decide⟩
theorem num_of : ∀ (l : List Nat) (i a m : Nat) (l' : List Nat), i ≤ 9 → (∀ b ∈ l, b < 256) → numR i a l = .ok m l' → ∃ n, l = numG (10 - i) n ++ l' ∧ m = a + n * 128 ^ i ∧ n * 128 ^ i < 18446744073709551616 ∧ (0 < i → 0 < n) := by
  intro l
  induction l with
  | nil =>
    intro i a m l' hi hb h
    rw [numR] at h
    split at h <;> cases h
  | cons b l ih =>
    intro i a m l' hi hb h
    have hb0 := hb b List.mem_cons_self
    rw [numR, if_neg (by omega)] at h
    split at h
    · cases h
    · rename_i h9
      split at h
      · rename_i hlt
        split at h
        · cases h
        · rename_i hz
          injection h with h1 h2
          subst h1 h2
          have hm : b % 128 = b := Nat.mod_eq_of_lt hlt
          rw [hm] at hz h9
          refine ⟨b, ?_, by rw [hm], ?_, fun h => by omega⟩
          · rw [show 10 - i = (9 - i) + 1 by omega, numG, if_pos hlt]; rfl
          · rcases ten i hi with rfl | rfl | rfl | rfl | rfl | rfl | rfl | rfl | rfl | rfl <;> omega
      · rename_i hge
        by_cases hi9 : i = 9
        · subst hi9
          exfalso
          cases l with
          | nil => rw [numR] at h; simp at h
          | cons c l => rw [numR] at h; simp at h
        · obtain ⟨n, e1, e2, e3, e4⟩ := ih (i + 1) _ m l' (by omega) (fun c hc => hb c (List.mem_cons_of_mem _ hc)) h
          have hp : 128 ^ (i + 1) = 128 * 128 ^ i := by rw [Nat.pow_succ, Nat.mul_comm]
          have hn := e4 (by omega)
          refine ⟨b % 128 + n * 128, ?_, ?_, ?_, fun _ => by omega⟩
          · rw [show 10 - i = (10 - (i + 1)) + 1 by omega, numG, if_neg (by omega), e1]
            have : (b % 128 + n * 128) % 128 + 128 = b := by omega
            rw [this, show (b % 128 + n * 128) / 128 = n by omega]; rfl
          · rw [e2, hp, Nat.add_mul, Nat.mul_assoc, Nat.add_assoc]
          · obtain ⟨Q, hQ⟩ := room i (by omega)
            rw [hp] at e3
            exact room_up (Nat.mod_lt _ (by omega)) hQ e3
theorem numR_numB {n : Nat} (h : n < 18446744073709551616) (l : List Nat) : numR 0 0 (numB n ++ l) = .ok n l := by
  have := numR_num 10 0 0 n l (by omega) (by omega) (by omega) (fun h => by omega)
  rw [Nat.pow_zero, Nat.mul_one, Nat.zero_add] at this
  exact this
theorem numR_of {l l' : List Nat} {n : Nat} (hb : ∀ b ∈ l, b < 256) (h : numR 0 0 l = .ok n l') : l = numB n ++ l' ∧ n < 18446744073709551616 := by
  obtain ⟨m, e1, e2, e3, -⟩ := num_of l 0 0 n l' (by omega) hb h
  rw [Nat.pow_zero, Nat.mul_one] at e2 e3
  rw [Nat.zero_add] at e2
  subst e2
  exact ⟨e1, e3⟩
end Go.Proofs.YtmkcooamgojbpaaDoor.Octets

/- A command of its bytes: plain. -/
namespace Go.Proofs.YtmkcooamgojbpaaDoor.Cmds
open Go.Proofs.YtmkcooamgojbpaaDoor.Octets
set_option linter.unusedVariables false

def Rd.bind {α β : Type} (r : Rd α) (f : α → List Nat → Rd β) : Rd β := match r with
  | .bad e => .bad e
  | .ok x l => f x l
def byteR : List Nat → Rd Nat
  | [] => .bad 3
  | b :: l => .ok b l
/-- What only a new order has. -/
structure NewP where
  a : Nat
  b : Nat
  t : Nat
  f : Nat
def newR (l : List Nat) : Rd NewP := Rd.bind (numR 0 0 l) fun a l4 => Rd.bind (byteR l4) fun b l5 => Rd.bind (byteR l5) fun t l6 => Rd.bind (byteR l6) fun f l7 => .ok ⟨a, b, t, f⟩ l7
def pqR (l : List Nat) : Rd (Int × Int) := Rd.bind (uintR 8 l) fun p l9 => Rd.bind (uintR 8 l9) fun q l10 => .ok (zag p, zag q) l10
def mkC (k s i : Nat) (x : NewP) (y : Int × Int) : Cmd := ⟨k, s, i, x.a, x.b, x.t, y.1, y.2, x.f⟩
def endR (k s i : Nat) (x : NewP) (y : Int × Int) (l : List Nat) : Rd Cmd :=
  if 4611686018427387904 < i ∨ 1073741824 < x.a ∨ l ≠ [] ∨ rightC (mkC k s i x y) = false then .bad 4 else .ok (mkC k s i x y) []
def partN (k : Nat) (l : List Nat) : Rd NewP := if k = 1 then newR l else .ok ⟨0, 0, 0, 0⟩ l
def partP (k : Nat) (l : List Nat) : Rd (Int × Int) := if k = 2 then .ok (0, 0) l else pqR l
def decF : List Nat → Rd Cmd
  | [] => .bad 3
  | k :: l => if k < 1 ∨ 3 < k then .bad 4 else
    Rd.bind (byteR l) fun s l => Rd.bind (numR 0 0 l) fun i l => Rd.bind (partN k l) fun x l => Rd.bind (partP k l) fun y l => endR k s i x y l
theorem bind_ok {α β : Type} {r : Rd α} {f : α → List Nat → Rd β} {y : β} {l : List Nat} (h : Rd.bind r f = .ok y l) : ∃ x l', r = .ok x l' ∧ f x l' = .ok y l := by
  cases r with
  | bad e => cases h
  | ok x l' => exact ⟨x, l', rfl, h⟩
theorem byte_ok {l l' : List Nat} {b : Nat} (h : byteR l = .ok b l') : l = b :: l' := by
  cases l with
  | nil => cases h
  | cons c l => injection h with h1 h2; subst h1 h2; rfl
theorem sub_right {l l' m : List Nat} (e : l = m ++ l') (h : ∀ b ∈ l, b < 256) : ∀ b ∈ l', b < 256 := fun b hb => h b (by rw [e]; exact List.mem_append_right _ hb)
theorem pow8 : (256 : Nat) ^ 8 = 18446744073709551616 := by decide
theorem i64_toNat {n : Int} (h : 0 ≤ n) : ((n.toNat : Nat) : Int) = n := by omega
/-- What is decoded is right, and has just these bytes. -/
theorem dec_ok {l l' : List Nat} {c : Cmd} (hb : ∀ b ∈ l, b < 256) (h : decF l = .ok c l') : l' = [] ∧ rightC c = true ∧ formC c = l ∧ (-9223372036854775808 ≤ c.p ∧ c.p ≤ 9223372036854775807) ∧ -9223372036854775808 ≤ c.q ∧ c.q ≤ 9223372036854775807 := by
  cases l with
  | nil => cases h
  | cons k l =>
    rw [decF] at h
    split at h
    · cases h
    rename_i hk
    obtain ⟨s, l1, e1, h⟩ := bind_ok h
    obtain ⟨i, l2, e2, h⟩ := bind_ok h
    obtain ⟨x, l3, e3, h⟩ := bind_ok h
    obtain ⟨y, l4, e4, h⟩ := bind_ok h
    have e1 := byte_ok e1
    have hbl : ∀ b ∈ l, b < 256 := fun b hm => hb b (List.mem_cons_of_mem _ hm)
    have hb1 : ∀ b ∈ l1, b < 256 := sub_right (m := [s]) e1 hbl
    obtain ⟨e2, hi⟩ := numR_of hb1 e2
    have hb2 := sub_right e2 hb1
    unfold endR at h
    split at h
    · cases h
    rename_i hbad
    injection h with h5 h6
    subst h5 h6
    have hl4 : l4 = [] := by
      cases l4 with
      | nil => rfl
      | cons a t => exact absurd (.inr (.inr (.inl (by simp)))) hbad
    subst hl4
    have hr : rightC (mkC k s i x y) = true := by
      cases hx : rightC (mkC k s i x y) with
      | true => rfl
      | false => exact absurd (.inr (.inr (.inr hx))) hbad
    refine ⟨rfl, hr, ?_⟩
    have hN : l2 = (if k = 1 then numB x.a ++ [x.b, x.t, x.f] else []) ++ l3 ∧ (∀ b ∈ l3, b < 256) := by
      unfold partN at e3
      split at e3
      · rename_i h1
        rw [if_pos h1]
        unfold newR at e3
        obtain ⟨a, m1, f1, e3⟩ := bind_ok e3
        obtain ⟨b, m2, f2, e3⟩ := bind_ok e3
        obtain ⟨t, m3, f3, e3⟩ := bind_ok e3
        obtain ⟨f, m4, f4, e3⟩ := bind_ok e3
        injection e3 with g1 g2
        subst g1 g2
        obtain ⟨f1, -⟩ := numR_of hb2 f1
        have f2 := byte_ok f2
        have f3 := byte_ok f3
        have f4 := byte_ok f4
        subst f4 f3 f2
        have e : l2 = (numB a ++ [b, t, f]) ++ m4 := by rw [f1]; simp
        exact ⟨e, sub_right e hb2⟩
      · rename_i h1
        rw [if_neg h1]
        injection e3 with g1 g2
        subst g1 g2
        exact ⟨rfl, hb2⟩
    obtain ⟨hN, hb3⟩ := hN
    have hP : l3 = (if k = 2 then [] else beB 8 (zig y.1) ++ beB 8 (zig y.2)) ∧ (-9223372036854775808 ≤ y.1 ∧ y.1 ≤ 9223372036854775807) ∧ -9223372036854775808 ≤ y.2 ∧ y.2 ≤ 9223372036854775807 := by
      unfold partP at e4
      split at e4
      · rename_i h1
        rw [if_pos h1]
        injection e4 with g1 g2
        subst g1 g2
        exact ⟨rfl, by decide, by decide⟩
      · rename_i h1
        rw [if_neg h1]
        unfold pqR at e4
        obtain ⟨p, m1, f1, e4⟩ := bind_ok e4
        obtain ⟨q, m2, f2, e4⟩ := bind_ok e4
        injection e4 with g1 g2
        subst g1 g2
        obtain ⟨f1, hp⟩ := uintR_of hb3 f1
        have hb4 := sub_right f1 hb3
        obtain ⟨f2, hq⟩ := uintR_of hb4 f2
        rw [pow8] at hp hq
        refine ⟨?_, zag_in hp, zag_in hq⟩
        show l3 = beB 8 (zig (zag p)) ++ beB 8 (zig (zag q))
        rw [zig_zag, zig_zag, f1, f2]
        simp
    obtain ⟨hP, hpq⟩ := hP
    refine ⟨?_, hpq⟩
    unfold formC mkC
    dsimp only
    have k1 : ((k : Int) = 1) = (k = 1) := by apply propext; omega
    have k2 : ((k : Int) = 2) = (k = 2) := by apply propext; omega
    simp only [k1, k2, Int.toNat_natCast]
    rw [e1, e2, hN, hP]
    simp
theorem right_zero {c : Cmd} (h : rightC c = true) : (c.k = 2 ∨ c.k = 3 → c.a = 0 ∧ c.b = 0 ∧ c.t = 0 ∧ c.f = 0) ∧ (c.k = 2 → c.p = 0 ∧ c.q = 0) := by
  unfold rightC at h
  split at h
  · cases h
  · split at h
    · cases h
    · split at h
      · rename_i hk; exact ⟨fun h => by omega, fun h => by omega⟩
      · split at h
        · rename_i hk
          simp only [Bool.and_eq_true, beq_iff_eq] at h
          exact ⟨fun _ => ⟨h.1, h.2.1, h.2.2.1, h.2.2.2⟩, fun h => by omega⟩
        · split at h
          · simp only [Bool.and_eq_true, beq_iff_eq] at h
            exact ⟨fun _ => ⟨h.1, h.2.1, h.2.2.1, h.2.2.2.2.2⟩, fun _ => ⟨h.2.2.2.1, h.2.2.2.2.1⟩⟩
          · cases h
/-- The bytes of one that is right are decoded to it. -/
theorem dec_form {c : Cmd} (h : rightC c = true) (hp : -9223372036854775808 ≤ c.p ∧ c.p ≤ 9223372036854775807) (hq : -9223372036854775808 ≤ c.q ∧ c.q ≤ 9223372036854775807) : decF (formC c) = .ok c [] := by
  obtain ⟨hk, hs, hi, hn⟩ := right_in h
  obtain ⟨hz, hz2⟩ := right_zero h
  obtain ⟨k, s, i, a, b, t, p, q, f⟩ := c
  dsimp only at *
  obtain ⟨k, rfl⟩ := Int.eq_ofNat_of_zero_le (show 0 ≤ k by omega)
  obtain ⟨s, rfl⟩ := Int.eq_ofNat_of_zero_le hs.1
  obtain ⟨i, rfl⟩ := Int.eq_ofNat_of_zero_le hi.1
  unfold formC
  dsimp only
  have k1 : ((k : Int) = 1) = (k = 1) := by apply propext; omega
  have k2 : ((k : Int) = 2) = (k = 2) := by apply propext; omega
  simp only [k1, k2, Int.toNat_natCast, List.cons_append, List.nil_append, List.append_assoc]
  rw [decF, if_neg (by omega)]
  simp only [byteR, Rd.bind]
  rw [numR_numB (by omega)]
  dsimp only
  have hz1 : zig p < 256 ^ 8 := by rw [pow8]; exact zig_lt p hp.1 hp.2
  have hz3 : zig q < 256 ^ 8 := by rw [pow8]; exact zig_lt q hq.1 hq.2
  have hP : ∀ l : List Nat, k ≠ 2 → partP k (beB 8 (zig p) ++ (beB 8 (zig q) ++ l)) = .ok (p, q) l := fun l hk2 => by
    unfold partP pqR
    rw [if_neg hk2, uintR_be hz1]
    simp only [Rd.bind]
    rw [uintR_be hz3]
    simp only [zag_zig]
  have hE : ∀ (x : NewP) (y : Int × Int), mkC k s i x y = ⟨k, s, i, a, b, t, p, q, f⟩ → x.a ≤ 1073741824 → endR k s i x y [] = .ok ⟨k, s, i, a, b, t, p, q, f⟩ [] := fun x y e hx => by
    unfold endR
    rw [e, if_neg]
    rintro (h1 | h1 | h1 | h1)
    · omega
    · omega
    · exact h1 rfl
    · rw [h] at h1; cases h1
  by_cases hk1 : k = 1
  · obtain ⟨ha, hb, ht, hf⟩ := hn (by omega)
    obtain ⟨a, rfl⟩ := Int.eq_ofNat_of_zero_le ha.1
    obtain ⟨b, rfl⟩ := Int.eq_ofNat_of_zero_le hb.1
    obtain ⟨t, rfl⟩ := Int.eq_ofNat_of_zero_le (show 0 ≤ t by omega)
    obtain ⟨f, rfl⟩ := Int.eq_ofNat_of_zero_le hf.1
    rw [if_pos hk1, if_neg (by omega)]
    unfold partN newR
    simp only [Int.toNat_natCast, List.append_assoc, List.cons_append, List.nil_append]
    rw [if_pos hk1, numR_numB (by omega)]
    simp only [byteR, Rd.bind]
    have := hP [] (by omega)
    rw [List.append_nil] at this
    rw [this]
    exact hE _ _ rfl (by dsimp only; omega)
  · obtain ⟨rfl, rfl, rfl, rfl⟩ := hz (by omega)
    rw [if_neg hk1]
    unfold partN
    rw [if_neg hk1]
    simp only [List.nil_append]
    by_cases hk2 : k = 2
    · obtain ⟨rfl, rfl⟩ := hz2 (by omega)
      rw [if_pos hk2]
      unfold partP
      rw [if_pos hk2]
      exact hE _ _ rfl (by dsimp only; omega)
    · rw [if_neg hk2]
      have := hP [] hk2
      rw [List.append_nil] at this
      rw [this]
      exact hE _ _ rfl (by dsimp only; omega)
end Go.Proofs.YtmkcooamgojbpaaDoor.Cmds

/- damperref05.Right. -/
namespace Go.Proofs.YtmkcooamgojbpaaDoor.Cmds
set_option linter.unusedVariables false
open Go.RowKit Go.Proofs.YtmkcooamgojbpaaDoor.Kit Go.Proofs.YtmkcooamgojbpaaDoor.Blk Go.Proofs.YtmkcooamgojbpaaDoor.Octets
attribute [local go_sem ↓] Go.wp_at_zero Go.wp_at_succ

set_option maxRecDepth 20000 in
set_option maxHeartbeats 4000000 in
theorem rright_one (c : Cmd) (w : World) (hc : c.k = 1 ∨ inB c.s 0 255 = false ∨ inB c.i 0 4611686018427387904 = false) : Calls Tryd.prog 177 #[.agg c.cells] w fun e w' => e = .returned (.bool (rightC c)) ∧ Below w.heap.size w w' := by
  obtain ⟨k, s, i, a, b, t, p, q, f⟩ := c
  have HB := Lib.hid (show Below w.heap.size w (w.alloc (.cells (Cmd.cells ⟨k, s, i, a, b, t, p, q, f⟩) 164)) from (Below.refl _ _).alloc (Nat.le_refl _) _)
  unfold Cmd.cells at *
  dsimp only at hc
  cases h1 : inB s 0 255 with
  | false =>
    clear hc
    have HS := Lib.hid (show rightC ⟨k, s, i, a, b, t, p, q, f⟩ = false by simp [rightC, h1])
    go_enter Tryd.func177, Tryd.ntmps177
    go_wp2_with (go_at_call 210; refine (rin_any _ _ _ _).mono ?_; rintro e w1 ⟨rfl, rfl⟩)
    go_ret
    exact ⟨ret_bool HS.out.symm, HB.out⟩
  | true =>
    cases h2 : inB i 0 4611686018427387904 with
    | false =>
      have HS := Lib.hid (show rightC ⟨k, s, i, a, b, t, p, q, f⟩ = false by simp [rightC, h2])
      clear hc
      go_enter Tryd.func177, Tryd.ntmps177
      go_wp2_with (go_at_call 210; refine (rin_any _ _ _ _).mono ?_; rintro e w1 ⟨rfl, rfl⟩)
      go_ret
      exact ⟨ret_bool HS.out.symm, HB.out⟩
    | true =>
      · obtain rfl : k = 1 := by simpa [h1, h2] using hc
        clear hc
        cases h3 : inB a 0 1073741824 with
        | false =>
          have HS := Lib.hid (show rightC ⟨1, s, i, a, b, t, p, q, f⟩ = false by simp [rightC, h1, h2, h3])
          go_enter Tryd.func177, Tryd.ntmps177
          go_wp2_with (go_at_call 210; refine (rin_any _ _ _ _).mono ?_; rintro e w1 ⟨rfl, rfl⟩)
          go_ret
          exact ⟨ret_bool HS.out.symm, HB.out⟩
        | true =>
          cases h4 : inB b 0 1 with
          | false =>
            have HS := Lib.hid (show rightC ⟨1, s, i, a, b, t, p, q, f⟩ = false by simp [rightC, h1, h2, h3, h4])
            go_enter Tryd.func177, Tryd.ntmps177
            go_wp2_with (go_at_call 210; refine (rin_any _ _ _ _).mono ?_; rintro e w1 ⟨rfl, rfl⟩)
            go_ret
            exact ⟨ret_bool HS.out.symm, HB.out⟩
          | true =>
            cases h5 : inB t 1 5 with
            | false =>
              have HS := Lib.hid (show rightC ⟨1, s, i, a, b, t, p, q, f⟩ = false by simp [rightC, h1, h2, h3, h4, h5])
              go_enter Tryd.func177, Tryd.ntmps177
              go_wp2_with (go_at_call 210; refine (rin_any _ _ _ _).mono ?_; rintro e w1 ⟨rfl, rfl⟩)
              go_ret
              exact ⟨ret_bool HS.out.symm, HB.out⟩
            | true =>
              cases h6 : inB f 0 7 with
              | false =>
                have HS := Lib.hid (show rightC ⟨1, s, i, a, b, t, p, q, f⟩ = false by simp [rightC, h1, h2, h3, h4, h5, h6])
                go_enter Tryd.func177, Tryd.ntmps177
                go_wp2_with (go_at_call 210; refine (rin_any _ _ _ _).mono ?_; rintro e w1 ⟨rfl, rfl⟩)
                go_ret
                exact ⟨ret_bool HS.out.symm, HB.out⟩
              | true =>
                have HS := Lib.hid (show rightC ⟨1, s, i, a, b, t, p, q, f⟩ = true by simp [rightC, h1, h2, h3, h4, h5, h6])
                go_enter Tryd.func177, Tryd.ntmps177
                go_wp2_with (go_at_call 210; refine (rin_any _ _ _ _).mono ?_; rintro e w1 ⟨rfl, rfl⟩)
                go_ret
                exact ⟨ret_bool HS.out.symm, HB.out⟩
set_option maxRecDepth 20000 in
set_option maxHeartbeats 4000000 in
theorem rright_any (c : Cmd) (w : World) : Calls Tryd.prog 177 #[.agg c.cells] w fun e w' => e = .returned (.bool (rightC c)) ∧ Below w.heap.size w w' := by
  by_cases hc : c.k = 1 ∨ inB c.s 0 255 = false ∨ inB c.i 0 4611686018427387904 = false
  · exact rright_one c w hc
  obtain ⟨k, s, i, a, b, t, p, q, f⟩ := c
  have HB := Lib.hid (show Below w.heap.size w (w.alloc (.cells (Cmd.cells ⟨k, s, i, a, b, t, p, q, f⟩) 164)) from (Below.refl _ _).alloc (Nat.le_refl _) _)
  unfold Cmd.cells at *
  dsimp only at hc
  have hk1 : ¬ k = 1 := fun h => hc (.inl h)
  have h1 : inB s 0 255 = true := by
    cases h : inB s 0 255 with
    | true => rfl
    | false => exact absurd (.inr (.inl h)) hc
  have h2 : inB i 0 4611686018427387904 = true := by
    cases h : inB i 0 4611686018427387904 with
    | true => rfl
    | false => exact absurd (.inr (.inr h)) hc
  have b1 : (k == 1) = false := by simpa using hk1
  clear hc
  by_cases hk3 : k = 3
  · subst hk3
    have HS := Lib.hid (show rightC ⟨3, s, i, a, b, t, p, q, f⟩ = (a == 0 && (b == 0 && (t == 0 && f == 0))) by simp [rightC, h1, h2])
    clear hk1
    go_enter Tryd.func177, Tryd.ntmps177
    go_wp2_with (go_at_call 210; refine (rin_any _ _ _ _).mono ?_; rintro e w1 ⟨rfl, rfl⟩)
    all_goals (subst_vars; go_ret; exact ⟨ret_bool (by rw [HS.out]; try simp [*]), HB.out⟩)
  · have b3 : (k == 3) = false := by simpa using hk3
    by_cases hk2 : k = 2
    · subst hk2
      have HS := Lib.hid (show rightC ⟨2, s, i, a, b, t, p, q, f⟩ = (a == 0 && (b == 0 && (t == 0 && (p == 0 && (q == 0 && f == 0))))) by simp [rightC, h1, h2])
      clear hk1 hk3
      go_enter Tryd.func177, Tryd.ntmps177
      go_wp2_with (go_at_call 210; refine (rin_any _ _ _ _).mono ?_; rintro e w1 ⟨rfl, rfl⟩)
      all_goals (subst_vars; go_ret; exact ⟨ret_bool (by rw [HS.out]; try simp [*]), HB.out⟩)
    · have b2 : (k == 2) = false := by simpa using hk2
      have HS := Lib.hid (show rightC ⟨k, s, i, a, b, t, p, q, f⟩ = false by simp [rightC, h1, h2, hk1, hk2, hk3])
      clear hk1 hk3 hk2
      go_enter Tryd.func177, Tryd.ntmps177
      go_wp2_with (go_at_call 210; refine (rin_any _ _ _ _).mono ?_; rintro e w1 ⟨rfl, rfl⟩)
      all_goals (subst_vars; go_ret; exact ⟨ret_bool (by rw [HS.out]; try simp [*]), HB.out⟩)
end Go.Proofs.YtmkcooamgojbpaaDoor.Cmds

/- damperref05: form, Encode. -/
namespace Go.Proofs.YtmkcooamgojbpaaDoor.Cmds
set_option linter.unusedVariables false
open Go.RowKit Go.Proofs.YtmkcooamgojbpaaDoor.Kit Go.Proofs.YtmkcooamgojbpaaDoor.Blk Go.Proofs.YtmkcooamgojbpaaDoor.Octets
attribute [local go_sem ↓] Go.wp_at_zero Go.wp_at_succ

theorem own_below {N : Nat} {l : List Nat} {v : Value} {W W' : World} (h : Own N l v W) (hb : Below W.heap.size W W') : Own N l v W' :=
  h.kept (row := none) ⟨hb.os, hb.tape, hb.output, hb.size, fun k hk _ => hb.block k hk⟩ (by
    cases hv : v.ownBlock with
    | none => exact .inl rfl
    | some j => exact .inr (by simp))
theorem numB_pos (n : Nat) : 0 < (numB n).length := by
  unfold numB
  cases 10 with
  | zero => simp [numG]
  | succ f => unfold numG; split <;> simp

set_option maxRecDepth 20000 in
set_option maxHeartbeats 4000000 in
theorem form_any (c : Cmd) (w : World) (hr : rightC c = true) (hp0 : -9223372036854775808 ≤ c.p) (hp1 : c.p ≤ 9223372036854775807) (hq0 : -9223372036854775808 ≤ c.q) (hq1 : c.q ≤ 9223372036854775807) :
    Calls Tryd.prog 226 #[.agg c.cells] w fun e w' => BytesIs (formC c) w e w' := by
  obtain ⟨i0, hi0, hz0, hz1, hz2⟩ := info_parts infoU8
  have HB := Lib.hid (Blk.new w c.cells 164 w.heap.size rfl)
  have HW := Lib.hid (show Below w.heap.size w (w.alloc (.cells c.cells 164)) from (Below.refl _ _).alloc (Nat.le_refl _) _)
  have hin := right_in hr
  obtain ⟨k, s, i, a, b, t, p, q, f⟩ := c
  dsimp only at hin hp0 hp1 hq0 hq1
  obtain ⟨hk, ⟨hs0, hs1⟩, ⟨hi0', hi1'⟩, h1⟩ := hin
  obtain ⟨k, rfl⟩ : ∃ n : Nat, k = n := ⟨k.toNat, by omega⟩
  obtain ⟨s, rfl⟩ : ∃ n : Nat, s = n := ⟨s.toNat, by omega⟩
  obtain ⟨i, rfl⟩ : ∃ n : Nat, i = n := ⟨i.toNat, by omega⟩
  have hkb : (k : Int) % 256 = (k : Int) := by omega
  have hsb : (s : Int) % 256 = (s : Int) := by omega
  have hib : (i : Int) % 18446744073709551616 = (i : Int) := by omega
  clear hr
  unfold Cmd.cells at *
  have HCN := Lib.hid (refnum_any i (by omega))
  have HMP := Lib.hid (numB_pos i)
  have HML := Lib.hid (numB_len i)
  have HIE := Lib.hid (show formC ⟨k, s, i, a, b, t, p, q, f⟩ = [k, s] ++ numB i ++ (if (k : Int) = 1 then numB a.toNat ++ [b.toNat, t.toNat, f.toNat] else []) ++ (if (k : Int) = 2 then [] else beB 8 (zig p) ++ beB 8 (zig q)) by simp [formC])
  generalize numB i = m at HCN HMP HML HIE
  have HV := Lib.hid (show Own w.heap.size [k, s] (.slice (some ⟨w.heap.size + 1, 0, none⟩) 2 2) ((w.alloc (.cells #[.int .i64 k, .int .i64 s, .int .i64 i, .int .i64 a, .int .i64 b, .int .i64 t, .int .i64 p, .int .i64 q, .int .i64 f] 164)).alloc (.cells #[.int .u8 (k : Int), .int .u8 (s : Int)] 5)) from ⟨rfl, .inr ⟨_, 2, #[.int .u8 (k : Int), .int .u8 (s : Int)], rfl, by omega, Blk.new _ #[.int .u8 (k : Int), .int .u8 (s : Int)] 5 (w.heap.size + 1) (by simp), Nat.le_refl _, by decide, rfl, rfl⟩⟩)
  go_enter Tryd.func226, Tryd.ntmps226
  go_wp2_with (go_at_call 242; fail)
  replace HB := Lib.hid (HB.out.old (.cells #[.int .u8 (k : Int), .int .u8 (s : Int)] 5))
  replace HW := Lib.hid (HW.out.alloc (by simp) (.cells #[.int .u8 (k : Int), .int .u8 (s : Int)] 5))
  refine (HCN.out _).mono ?_
  rintro e w2 ⟨u, rfl, hu, hb⟩
  obtain ⟨gu, cu, rfl, -, -⟩ := World.ownsRow.form hu (show 0 < List.length m from HMP.out)
  have HUN := Lib.hid (World.ownsRow.cells hu rfl)
  replace HV := Lib.hid (own_below HV.out hb)
  replace HB := Lib.hid (HB.out.below hb HB.out.lt)
  replace HW := Lib.hid (HW.out.trans (hb.mono HW.out.size))
  clear hu hb
  have HL := Lib.hid (show ([k, s] : List Nat).length ≤ 2 by simp)
  have HIE2 := Lib.hid (show ([k, s] ++ m).length ≤ 13 by have := HML.out; simp; omega)
  generalize [k, s] = l at HV HIE HL HIE2
  by_cases hk1 : k = 1
  · subst hk1
    obtain ⟨⟨ha0, ha1⟩, ⟨hb0, hb1⟩, ⟨ht0, ht1⟩, hf0, hf1⟩ := h1 rfl
    obtain ⟨a, rfl⟩ : ∃ n : Nat, a = n := ⟨a.toNat, by omega⟩
    obtain ⟨b, rfl⟩ : ∃ n : Nat, b = n := ⟨b.toNat, by omega⟩
    obtain ⟨t, rfl⟩ : ∃ n : Nat, t = n := ⟨t.toNat, by omega⟩
    obtain ⟨f, rfl⟩ : ∃ n : Nat, f = n := ⟨f.toNat, by omega⟩
    have hab : (a : Int) % 18446744073709551616 = (a : Int) := by omega
    have hbb : (b : Int) % 256 = (b : Int) := by omega
    have htb : (t : Int) % 256 = (t : Int) := by omega
    have hfb : (f : Int) % 256 = (f : Int) := by omega
    have HCA := Lib.hid (refnum_any a (by omega))
    have HAP := Lib.hid (numB_pos a)
    have HAL := Lib.hid (numB_len a)
    replace HIE := Lib.hid (show formC ⟨((1 : Nat) : Int), s, i, a, b, t, p, q, f⟩ = l ++ m ++ numB a ++ [b, t, f] ++ beB 8 (zig p) ++ beB 8 (zig q) by rw [HIE.out]; simp)
    generalize numB a = ma at HCA HAP HAL HIE
    clear h1 hk
    go_wp2_with
    (at_builtin; refine wpList_append_lies _ (by rfl) _ _ _ (by rfl) w.heap.size 5 i0 (.int .u8 0) 1 1 Tryd.underlying40 hi0 hz0 hz1 hz2 (by rfl) (by decide) _ (List.length l) (vals l) (by rfl) HV.out ⟨gu, 0, none⟩ (List.length m) cu (vals m) (by rfl) (by rw [vals_len, Nat.mul_one]) HUN.out (one_vals m) HMP.out (by unfold maxLen; have := And.intro HL.out HML.out; omega) (by have := And.intro HL.out HML.out; omega) HW.out.size _ rfl ?_; intro ga ca w3 hown hgrow hat hlt5; replace HB := Lib.hid (blk_row' HB.out (by decide) HV.out hgrow); have HPU := Lib.hid (own_push (m := m) HW.out HW.out.size HV.out (Below.refl _ _) hown hgrow); replace HV := Lib.hid HPU.out.1; replace HW := Lib.hid HPU.out.2; clear hown hgrow hat hlt5 HPU HUN; have a0 : w3.cell? ⟨w.heap.size, 0, none⟩ = some (.int .i64 _) := HB.out.cell 0 rfl; have a3 : w3.cell? ⟨w.heap.size, 3, none⟩ = some (.int .i64 _) := HB.out.cell 3 rfl; have a4 : w3.cell? ⟨w.heap.size, 4, none⟩ = some (.int .i64 _) := HB.out.cell 4 rfl; have a5 : w3.cell? ⟨w.heap.size, 5, none⟩ = some (.int .i64 _) := HB.out.cell 5 rfl; have a6 : w3.cell? ⟨w.heap.size, 6, none⟩ = some (.int .i64 _) := HB.out.cell 6 rfl; have a7 : w3.cell? ⟨w.heap.size, 7, none⟩ = some (.int .i64 _) := HB.out.cell 7 rfl; have a8 : w3.cell? ⟨w.heap.size, 8, none⟩ = some (.int .i64 _) := HB.out.cell 8 rfl)
    refine (HCA.out _).mono ?_
    rintro e w4 ⟨u, rfl, hu, hb⟩
    clear a0 a3 a4 a5 a6 a7 a8
    replace HL := Lib.hid (show (l ++ m).length ≤ 13 from HIE2.out)
    clear HIE2 HMP HML HCN
    generalize l ++ m = l at HV HIE HL
    obtain ⟨gu, cu, rfl, -, -⟩ := World.ownsRow.form hu (show 0 < List.length ma from HAP.out)
    have HUN := Lib.hid (World.ownsRow.cells hu rfl)
    replace HV := Lib.hid (own_below HV.out hb)
    replace HB := Lib.hid (HB.out.below hb HB.out.lt)
    replace HW := Lib.hid (HW.out.trans (hb.mono HW.out.size))
    clear hu hb
    have a0 : w4.cell? ⟨w.heap.size, 0, none⟩ = some (.int .i64 _) := HB.out.cell 0 rfl
    have a3 : w4.cell? ⟨w.heap.size, 3, none⟩ = some (.int .i64 _) := HB.out.cell 3 rfl
    have a4 : w4.cell? ⟨w.heap.size, 4, none⟩ = some (.int .i64 _) := HB.out.cell 4 rfl
    have a5 : w4.cell? ⟨w.heap.size, 5, none⟩ = some (.int .i64 _) := HB.out.cell 5 rfl
    have a6 : w4.cell? ⟨w.heap.size, 6, none⟩ = some (.int .i64 _) := HB.out.cell 6 rfl
    have a7 : w4.cell? ⟨w.heap.size, 7, none⟩ = some (.int .i64 _) := HB.out.cell 7 rfl
    have a8 : w4.cell? ⟨w.heap.size, 8, none⟩ = some (.int .i64 _) := HB.out.cell 8 rfl
    have HLA := Lib.hid (show (l ++ ma).length ≤ 24 by have := HL.out; have := HAL.out; rw [List.length_append]; omega)
    go_wp2_with (first
    |
    (at_builtin; refine wpList_append_lies _ (by rfl) _ _ _ (by rfl) w.heap.size 5 i0 (.int .u8 0) 1 1 Tryd.underlying40 hi0 hz0 hz1 hz2 (by rfl) (by decide) _ (List.length l) (vals l) (by rfl) HV.out ⟨gu, 0, none⟩ (List.length ma) cu (vals ma) (by rfl) (by rw [vals_len, Nat.mul_one]) HUN.out (one_vals ma) HAP.out (by unfold maxLen; have := And.intro HL.out HAL.out; omega) (by have := And.intro HL.out HAL.out; omega) HW.out.size _ rfl ?_; intro ga ca w5 hown hgrow hat hlt5; replace HB := Lib.hid (blk_row' HB.out (by decide) HV.out hgrow); have HPU := Lib.hid (own_push (m := ma) HW.out HW.out.size HV.out (Below.refl _ _) hown hgrow); replace HV := Lib.hid HPU.out.1; replace HW := Lib.hid HPU.out.2; clear hown hgrow hat hlt5 HPU HUN; have a0 : w5.cell? ⟨w.heap.size, 0, none⟩ = some (.int .i64 _) := HB.out.cell 0 rfl; have a3 : w5.cell? ⟨w.heap.size, 3, none⟩ = some (.int .i64 _) := HB.out.cell 3 rfl; have a4 : w5.cell? ⟨w.heap.size, 4, none⟩ = some (.int .i64 _) := HB.out.cell 4 rfl; have a5 : w5.cell? ⟨w.heap.size, 5, none⟩ = some (.int .i64 _) := HB.out.cell 5 rfl; have a6 : w5.cell? ⟨w.heap.size, 6, none⟩ = some (.int .i64 _) := HB.out.cell 6 rfl; have a7 : w5.cell? ⟨w.heap.size, 7, none⟩ = some (.int .i64 _) := HB.out.cell 7 rfl; have a8 : w5.cell? ⟨w.heap.size, 8, none⟩ = some (.int .i64 _) := HB.out.cell 8 rfl)
    |
    (at_builtin; refine wpList_append_lies _ (by rfl) _ _ _ (by rfl) w.heap.size 5 i0 (.int .u8 0) 1 1 Tryd.underlying40 hi0 hz0 hz1 hz2 (by rfl) (by decide) _ (List.length (l ++ ma)) (vals (l ++ ma)) (by rfl) (World.ownsRow.alloc HV.out (.cells #[.int .u8 (b : Int), .int .u8 (t : Int), .int .u8 (f : Int)] 5)) ⟨w5.heap.size, 0, none⟩ 3 3 (vals [b, t, f]) (by rfl) (by rfl) (news_vals (Blk.new w5 #[.int .u8 (b : Int), .int .u8 (t : Int), .int .u8 (f : Int)] 5 w5.heap.size rfl)) (one_vals [b, t, f]) (by decide) (by unfold maxLen; have := HLA.out; omega) (by have := HLA.out; omega) (by have := HW.out.size; simp; omega) _ rfl ?_; intro ga ca w6 hown hgrow hat hlt5; replace HB := Lib.hid (blk_row' (HB.out.old (.cells #[.int .u8 (b : Int), .int .u8 (t : Int), .int .u8 (f : Int)] 5)) (by decide) (World.ownsRow.alloc HV.out (.cells #[.int .u8 (b : Int), .int .u8 (t : Int), .int .u8 (f : Int)] 5)) hgrow); have HPU := Lib.hid (own_push (m := [b, t, f]) HW.out HW.out.size HV.out ((Below.refl _ _).alloc (Nat.le_refl _) (.cells #[.int .u8 (b : Int), .int .u8 (t : Int), .int .u8 (f : Int)] 5)) hown hgrow); replace HV := Lib.hid HPU.out.1; replace HW := Lib.hid HPU.out.2; clear hown hgrow hat hlt5 HPU; have a0 : w6.cell? ⟨w.heap.size, 0, none⟩ = some (.int .i64 _) := HB.out.cell 0 rfl; have a3 : w6.cell? ⟨w.heap.size, 3, none⟩ = some (.int .i64 _) := HB.out.cell 3 rfl; have a4 : w6.cell? ⟨w.heap.size, 4, none⟩ = some (.int .i64 _) := HB.out.cell 4 rfl; have a5 : w6.cell? ⟨w.heap.size, 5, none⟩ = some (.int .i64 _) := HB.out.cell 5 rfl; have a6 : w6.cell? ⟨w.heap.size, 6, none⟩ = some (.int .i64 _) := HB.out.cell 6 rfl; have a7 : w6.cell? ⟨w.heap.size, 7, none⟩ = some (.int .i64 _) := HB.out.cell 7 rfl; have a8 : w6.cell? ⟨w.heap.size, 8, none⟩ = some (.int .i64 _) := HB.out.cell 8 rfl)
    )
    have HL2 := Lib.hid (show (l ++ ma ++ [b, t, f]).length ≤ 40 by have := HL.out; have := HAL.out; rw [List.length_append, List.length_append]; simp; omega)
    clear HL HLA
    have hv := HV.out
    simp only [List.length_append] at hv
    replace HV := Lib.hid hv
    clear hv
    generalize l ++ ma ++ [b, t, f] = l at HV HIE HL2
    have HL := HL2
    clear HL2
    have HP1 := Lib.hid (refint_any p hp0 hp1)
    have HQ1 := Lib.hid (refint_any q hq0 hq1)
    have HP8 := Lib.hid (beB_len 8 (zig p))
    have HQ8 := Lib.hid (beB_len 8 (zig q))
    generalize beB 8 (zig p) = mp at HP1 HP8 HIE
    generalize beB 8 (zig q) = mq at HQ1 HQ8 HIE
    have HLP := Lib.hid (show (l ++ mp).length ≤ 60 by have := HL.out; have := HP8.out; rw [List.length_append]; omega)
    refine (HP1.out _).mono ?_
    rintro e w6 ⟨u, rfl, hu, hb⟩
    clear a0 a3 a4 a5 a6 a7 a8
    obtain ⟨gu, cu, rfl, -, -⟩ := World.ownsRow.form hu (show 0 < List.length mp from (by have := HP8.out; omega))
    have HUN := Lib.hid (World.ownsRow.cells hu rfl)
    replace HV := Lib.hid (own_below HV.out hb)
    replace HB := Lib.hid (HB.out.below hb HB.out.lt)
    replace HW := Lib.hid (HW.out.trans (hb.mono HW.out.size))
    clear hu hb
    have a0 : w6.cell? ⟨w.heap.size, 0, none⟩ = some (.int .i64 _) := HB.out.cell 0 rfl
    have a3 : w6.cell? ⟨w.heap.size, 3, none⟩ = some (.int .i64 _) := HB.out.cell 3 rfl
    have a4 : w6.cell? ⟨w.heap.size, 4, none⟩ = some (.int .i64 _) := HB.out.cell 4 rfl
    have a5 : w6.cell? ⟨w.heap.size, 5, none⟩ = some (.int .i64 _) := HB.out.cell 5 rfl
    have a6 : w6.cell? ⟨w.heap.size, 6, none⟩ = some (.int .i64 _) := HB.out.cell 6 rfl
    have a7 : w6.cell? ⟨w.heap.size, 7, none⟩ = some (.int .i64 _) := HB.out.cell 7 rfl
    have a8 : w6.cell? ⟨w.heap.size, 8, none⟩ = some (.int .i64 _) := HB.out.cell 8 rfl
    go_wp2_with
    (at_builtin; refine wpList_append_lies _ (by rfl) _ _ _ (by rfl) w.heap.size 5 i0 (.int .u8 0) 1 1 Tryd.underlying40 hi0 hz0 hz1 hz2 (by rfl) (by decide) _ (List.length l) (vals l) (by rfl) HV.out ⟨gu, 0, none⟩ (List.length mp) cu (vals mp) (by rfl) (by rw [vals_len, Nat.mul_one]) HUN.out (one_vals mp) (by have := HP8.out; omega) (by unfold maxLen; have := And.intro HL.out HP8.out; omega) (by have := And.intro HL.out HP8.out; omega) HW.out.size _ rfl ?_; intro ga ca w7 hown hgrow hat hlt5; replace HB := Lib.hid (blk_row' HB.out (by decide) HV.out hgrow); have HPU := Lib.hid (own_push (m := mp) HW.out HW.out.size HV.out (Below.refl _ _) hown hgrow); replace HV := Lib.hid HPU.out.1; replace HW := Lib.hid HPU.out.2; clear hown hgrow hat hlt5 HPU HUN; have a0 : w7.cell? ⟨w.heap.size, 0, none⟩ = some (.int .i64 _) := HB.out.cell 0 rfl; have a3 : w7.cell? ⟨w.heap.size, 3, none⟩ = some (.int .i64 _) := HB.out.cell 3 rfl; have a4 : w7.cell? ⟨w.heap.size, 4, none⟩ = some (.int .i64 _) := HB.out.cell 4 rfl; have a5 : w7.cell? ⟨w.heap.size, 5, none⟩ = some (.int .i64 _) := HB.out.cell 5 rfl; have a6 : w7.cell? ⟨w.heap.size, 6, none⟩ = some (.int .i64 _) := HB.out.cell 6 rfl; have a7 : w7.cell? ⟨w.heap.size, 7, none⟩ = some (.int .i64 _) := HB.out.cell 7 rfl; have a8 : w7.cell? ⟨w.heap.size, 8, none⟩ = some (.int .i64 _) := HB.out.cell 8 rfl)
    refine (HQ1.out _).mono ?_
    rintro e w8 ⟨u, rfl, hu, hb⟩
    clear a0 a3 a4 a5 a6 a7 a8
    obtain ⟨gu, cu, rfl, -, -⟩ := World.ownsRow.form hu (show 0 < List.length mq from (by have := HQ8.out; omega))
    have HUN := Lib.hid (World.ownsRow.cells hu rfl)
    replace HV := Lib.hid (own_below HV.out hb)
    replace HB := Lib.hid (HB.out.below hb HB.out.lt)
    replace HW := Lib.hid (HW.out.trans (hb.mono HW.out.size))
    clear hu hb
    have a0 : w8.cell? ⟨w.heap.size, 0, none⟩ = some (.int .i64 _) := HB.out.cell 0 rfl
    have a3 : w8.cell? ⟨w.heap.size, 3, none⟩ = some (.int .i64 _) := HB.out.cell 3 rfl
    have a4 : w8.cell? ⟨w.heap.size, 4, none⟩ = some (.int .i64 _) := HB.out.cell 4 rfl
    have a5 : w8.cell? ⟨w.heap.size, 5, none⟩ = some (.int .i64 _) := HB.out.cell 5 rfl
    have a6 : w8.cell? ⟨w.heap.size, 6, none⟩ = some (.int .i64 _) := HB.out.cell 6 rfl
    have a7 : w8.cell? ⟨w.heap.size, 7, none⟩ = some (.int .i64 _) := HB.out.cell 7 rfl
    have a8 : w8.cell? ⟨w.heap.size, 8, none⟩ = some (.int .i64 _) := HB.out.cell 8 rfl
    go_wp2_with
    (at_builtin; refine wpList_append_lies _ (by rfl) _ _ _ (by rfl) w.heap.size 5 i0 (.int .u8 0) 1 1 Tryd.underlying40 hi0 hz0 hz1 hz2 (by rfl) (by decide) _ (List.length (l ++ mp)) (vals (l ++ mp)) (by rfl) HV.out ⟨gu, 0, none⟩ (List.length mq) cu (vals mq) (by rfl) (by rw [vals_len, Nat.mul_one]) HUN.out (one_vals mq) (by have := HQ8.out; omega) (by unfold maxLen; have := And.intro HLP.out HQ8.out; omega) (by have := And.intro HLP.out HQ8.out; omega) HW.out.size _ rfl ?_; intro ga ca w9 hown hgrow hat hlt5; replace HB := Lib.hid (blk_row' HB.out (by decide) HV.out hgrow); have HPU := Lib.hid (own_push (m := mq) HW.out HW.out.size HV.out (Below.refl _ _) hown hgrow); replace HV := Lib.hid HPU.out.1; replace HW := Lib.hid HPU.out.2; clear hown hgrow hat hlt5 HPU HUN; have a0 : w9.cell? ⟨w.heap.size, 0, none⟩ = some (.int .i64 _) := HB.out.cell 0 rfl; have a3 : w9.cell? ⟨w.heap.size, 3, none⟩ = some (.int .i64 _) := HB.out.cell 3 rfl; have a4 : w9.cell? ⟨w.heap.size, 4, none⟩ = some (.int .i64 _) := HB.out.cell 4 rfl; have a5 : w9.cell? ⟨w.heap.size, 5, none⟩ = some (.int .i64 _) := HB.out.cell 5 rfl; have a6 : w9.cell? ⟨w.heap.size, 6, none⟩ = some (.int .i64 _) := HB.out.cell 6 rfl; have a7 : w9.cell? ⟨w.heap.size, 7, none⟩ = some (.int .i64 _) := HB.out.cell 7 rfl; have a8 : w9.cell? ⟨w.heap.size, 8, none⟩ = some (.int .i64 _) := HB.out.cell 8 rfl)
    have hv := HV.out
    simp only [List.length_append] at hv
    go_ret
    exact ⟨_, rfl, by rw [HIE.out]; exact hv, HW.out⟩
  · have g1 : ((k : Int) == 1) = false := by simp; omega
    have n1 : ¬ (k : Int) = 1 := by omega
    by_cases hk2 : k = 2
    · subst hk2
      replace HIE := Lib.hid (show formC ⟨((2 : Nat) : Int), s, i, a, b, t, p, q, f⟩ = l ++ m by rw [HIE.out]; simp)
      clear h1 hk hk1 n1
      go_wp2_with
      (at_builtin; refine wpList_append_lies _ (by rfl) _ _ _ (by rfl) w.heap.size 5 i0 (.int .u8 0) 1 1 Tryd.underlying40 hi0 hz0 hz1 hz2 (by rfl) (by decide) _ (List.length l) (vals l) (by rfl) HV.out ⟨gu, 0, none⟩ (List.length m) cu (vals m) (by rfl) (by rw [vals_len, Nat.mul_one]) HUN.out (one_vals m) HMP.out (by unfold maxLen; have := And.intro HL.out HML.out; omega) (by have := And.intro HL.out HML.out; omega) HW.out.size _ rfl ?_; intro ga ca w3 hown hgrow hat hlt5; replace HB := Lib.hid (blk_row' HB.out (by decide) HV.out hgrow); have HPU := Lib.hid (own_push (m := m) HW.out HW.out.size HV.out (Below.refl _ _) hown hgrow); replace HV := Lib.hid HPU.out.1; replace HW := Lib.hid HPU.out.2; clear hown hgrow hat hlt5 HPU HUN; have a0 : w3.cell? ⟨w.heap.size, 0, none⟩ = some (.int .i64 _) := HB.out.cell 0 rfl; have a3 : w3.cell? ⟨w.heap.size, 3, none⟩ = some (.int .i64 _) := HB.out.cell 3 rfl; have a4 : w3.cell? ⟨w.heap.size, 4, none⟩ = some (.int .i64 _) := HB.out.cell 4 rfl; have a5 : w3.cell? ⟨w.heap.size, 5, none⟩ = some (.int .i64 _) := HB.out.cell 5 rfl; have a6 : w3.cell? ⟨w.heap.size, 6, none⟩ = some (.int .i64 _) := HB.out.cell 6 rfl; have a7 : w3.cell? ⟨w.heap.size, 7, none⟩ = some (.int .i64 _) := HB.out.cell 7 rfl; have a8 : w3.cell? ⟨w.heap.size, 8, none⟩ = some (.int .i64 _) := HB.out.cell 8 rfl)
      go_ret
      exact ⟨_, rfl, by rw [HIE.out]; exact HV.out, HW.out⟩
    · have g2 : ((k : Int) != 2) = true := by simp; omega
      have n2 : ¬ (k : Int) = 2 := by omega
      replace HIE := Lib.hid (show formC ⟨(k : Int), s, i, a, b, t, p, q, f⟩ = l ++ m ++ beB 8 (zig p) ++ beB 8 (zig q) by rw [HIE.out]; simp [n1, n2])
      clear h1 hk hk1 hk2 n1 n2
      go_wp2_with
      (at_builtin; refine wpList_append_lies _ (by rfl) _ _ _ (by rfl) w.heap.size 5 i0 (.int .u8 0) 1 1 Tryd.underlying40 hi0 hz0 hz1 hz2 (by rfl) (by decide) _ (List.length l) (vals l) (by rfl) HV.out ⟨gu, 0, none⟩ (List.length m) cu (vals m) (by rfl) (by rw [vals_len, Nat.mul_one]) HUN.out (one_vals m) HMP.out (by unfold maxLen; have := And.intro HL.out HML.out; omega) (by have := And.intro HL.out HML.out; omega) HW.out.size _ rfl ?_; intro ga ca w3 hown hgrow hat hlt5; replace HB := Lib.hid (blk_row' HB.out (by decide) HV.out hgrow); have HPU := Lib.hid (own_push (m := m) HW.out HW.out.size HV.out (Below.refl _ _) hown hgrow); replace HV := Lib.hid HPU.out.1; replace HW := Lib.hid HPU.out.2; clear hown hgrow hat hlt5 HPU HUN; have a0 : w3.cell? ⟨w.heap.size, 0, none⟩ = some (.int .i64 _) := HB.out.cell 0 rfl; have a3 : w3.cell? ⟨w.heap.size, 3, none⟩ = some (.int .i64 _) := HB.out.cell 3 rfl; have a4 : w3.cell? ⟨w.heap.size, 4, none⟩ = some (.int .i64 _) := HB.out.cell 4 rfl; have a5 : w3.cell? ⟨w.heap.size, 5, none⟩ = some (.int .i64 _) := HB.out.cell 5 rfl; have a6 : w3.cell? ⟨w.heap.size, 6, none⟩ = some (.int .i64 _) := HB.out.cell 6 rfl; have a7 : w3.cell? ⟨w.heap.size, 7, none⟩ = some (.int .i64 _) := HB.out.cell 7 rfl; have a8 : w3.cell? ⟨w.heap.size, 8, none⟩ = some (.int .i64 _) := HB.out.cell 8 rfl)
      replace HL := Lib.hid (show (l ++ m).length ≤ 40 by have := HIE2.out; omega)
      clear HIE2 HMP HML HCN
      generalize l ++ m = l at HV HIE HL
      have HP1 := Lib.hid (refint_any p hp0 hp1)
      have HQ1 := Lib.hid (refint_any q hq0 hq1)
      have HP8 := Lib.hid (beB_len 8 (zig p))
      have HQ8 := Lib.hid (beB_len 8 (zig q))
      generalize beB 8 (zig p) = mp at HP1 HP8 HIE
      generalize beB 8 (zig q) = mq at HQ1 HQ8 HIE
      have HLP := Lib.hid (show (l ++ mp).length ≤ 60 by have := HL.out; have := HP8.out; rw [List.length_append]; omega)
      refine (HP1.out _).mono ?_
      rintro e w6 ⟨u, rfl, hu, hb⟩
      clear a0 a3 a4 a5 a6 a7 a8
      obtain ⟨gu, cu, rfl, -, -⟩ := World.ownsRow.form hu (show 0 < List.length mp from (by have := HP8.out; omega))
      have HUN := Lib.hid (World.ownsRow.cells hu rfl)
      replace HV := Lib.hid (own_below HV.out hb)
      replace HB := Lib.hid (HB.out.below hb HB.out.lt)
      replace HW := Lib.hid (HW.out.trans (hb.mono HW.out.size))
      clear hu hb
      have a0 : w6.cell? ⟨w.heap.size, 0, none⟩ = some (.int .i64 _) := HB.out.cell 0 rfl
      have a3 : w6.cell? ⟨w.heap.size, 3, none⟩ = some (.int .i64 _) := HB.out.cell 3 rfl
      have a4 : w6.cell? ⟨w.heap.size, 4, none⟩ = some (.int .i64 _) := HB.out.cell 4 rfl
      have a5 : w6.cell? ⟨w.heap.size, 5, none⟩ = some (.int .i64 _) := HB.out.cell 5 rfl
      have a6 : w6.cell? ⟨w.heap.size, 6, none⟩ = some (.int .i64 _) := HB.out.cell 6 rfl
      have a7 : w6.cell? ⟨w.heap.size, 7, none⟩ = some (.int .i64 _) := HB.out.cell 7 rfl
      have a8 : w6.cell? ⟨w.heap.size, 8, none⟩ = some (.int .i64 _) := HB.out.cell 8 rfl
      go_wp2_with
      (at_builtin; refine wpList_append_lies _ (by rfl) _ _ _ (by rfl) w.heap.size 5 i0 (.int .u8 0) 1 1 Tryd.underlying40 hi0 hz0 hz1 hz2 (by rfl) (by decide) _ (List.length l) (vals l) (by rfl) HV.out ⟨gu, 0, none⟩ (List.length mp) cu (vals mp) (by rfl) (by rw [vals_len, Nat.mul_one]) HUN.out (one_vals mp) (by have := HP8.out; omega) (by unfold maxLen; have := And.intro HL.out HP8.out; omega) (by have := And.intro HL.out HP8.out; omega) HW.out.size _ rfl ?_; intro ga ca w7 hown hgrow hat hlt5; replace HB := Lib.hid (blk_row' HB.out (by decide) HV.out hgrow); have HPU := Lib.hid (own_push (m := mp) HW.out HW.out.size HV.out (Below.refl _ _) hown hgrow); replace HV := Lib.hid HPU.out.1; replace HW := Lib.hid HPU.out.2; clear hown hgrow hat hlt5 HPU HUN; have a0 : w7.cell? ⟨w.heap.size, 0, none⟩ = some (.int .i64 _) := HB.out.cell 0 rfl; have a3 : w7.cell? ⟨w.heap.size, 3, none⟩ = some (.int .i64 _) := HB.out.cell 3 rfl; have a4 : w7.cell? ⟨w.heap.size, 4, none⟩ = some (.int .i64 _) := HB.out.cell 4 rfl; have a5 : w7.cell? ⟨w.heap.size, 5, none⟩ = some (.int .i64 _) := HB.out.cell 5 rfl; have a6 : w7.cell? ⟨w.heap.size, 6, none⟩ = some (.int .i64 _) := HB.out.cell 6 rfl; have a7 : w7.cell? ⟨w.heap.size, 7, none⟩ = some (.int .i64 _) := HB.out.cell 7 rfl; have a8 : w7.cell? ⟨w.heap.size, 8, none⟩ = some (.int .i64 _) := HB.out.cell 8 rfl)
      refine (HQ1.out _).mono ?_
      rintro e w8 ⟨u, rfl, hu, hb⟩
      clear a0 a3 a4 a5 a6 a7 a8
      obtain ⟨gu, cu, rfl, -, -⟩ := World.ownsRow.form hu (show 0 < List.length mq from (by have := HQ8.out; omega))
      have HUN := Lib.hid (World.ownsRow.cells hu rfl)
      replace HV := Lib.hid (own_below HV.out hb)
      replace HB := Lib.hid (HB.out.below hb HB.out.lt)
      replace HW := Lib.hid (HW.out.trans (hb.mono HW.out.size))
      clear hu hb
      have a0 : w8.cell? ⟨w.heap.size, 0, none⟩ = some (.int .i64 _) := HB.out.cell 0 rfl
      have a3 : w8.cell? ⟨w.heap.size, 3, none⟩ = some (.int .i64 _) := HB.out.cell 3 rfl
      have a4 : w8.cell? ⟨w.heap.size, 4, none⟩ = some (.int .i64 _) := HB.out.cell 4 rfl
      have a5 : w8.cell? ⟨w.heap.size, 5, none⟩ = some (.int .i64 _) := HB.out.cell 5 rfl
      have a6 : w8.cell? ⟨w.heap.size, 6, none⟩ = some (.int .i64 _) := HB.out.cell 6 rfl
      have a7 : w8.cell? ⟨w.heap.size, 7, none⟩ = some (.int .i64 _) := HB.out.cell 7 rfl
      have a8 : w8.cell? ⟨w.heap.size, 8, none⟩ = some (.int .i64 _) := HB.out.cell 8 rfl
      go_wp2_with
      (at_builtin; refine wpList_append_lies _ (by rfl) _ _ _ (by rfl) w.heap.size 5 i0 (.int .u8 0) 1 1 Tryd.underlying40 hi0 hz0 hz1 hz2 (by rfl) (by decide) _ (List.length (l ++ mp)) (vals (l ++ mp)) (by rfl) HV.out ⟨gu, 0, none⟩ (List.length mq) cu (vals mq) (by rfl) (by rw [vals_len, Nat.mul_one]) HUN.out (one_vals mq) (by have := HQ8.out; omega) (by unfold maxLen; have := And.intro HLP.out HQ8.out; omega) (by have := And.intro HLP.out HQ8.out; omega) HW.out.size _ rfl ?_; intro ga ca w9 hown hgrow hat hlt5; replace HB := Lib.hid (blk_row' HB.out (by decide) HV.out hgrow); have HPU := Lib.hid (own_push (m := mq) HW.out HW.out.size HV.out (Below.refl _ _) hown hgrow); replace HV := Lib.hid HPU.out.1; replace HW := Lib.hid HPU.out.2; clear hown hgrow hat hlt5 HPU HUN; have a0 : w9.cell? ⟨w.heap.size, 0, none⟩ = some (.int .i64 _) := HB.out.cell 0 rfl; have a3 : w9.cell? ⟨w.heap.size, 3, none⟩ = some (.int .i64 _) := HB.out.cell 3 rfl; have a4 : w9.cell? ⟨w.heap.size, 4, none⟩ = some (.int .i64 _) := HB.out.cell 4 rfl; have a5 : w9.cell? ⟨w.heap.size, 5, none⟩ = some (.int .i64 _) := HB.out.cell 5 rfl; have a6 : w9.cell? ⟨w.heap.size, 6, none⟩ = some (.int .i64 _) := HB.out.cell 6 rfl; have a7 : w9.cell? ⟨w.heap.size, 7, none⟩ = some (.int .i64 _) := HB.out.cell 7 rfl; have a8 : w9.cell? ⟨w.heap.size, 8, none⟩ = some (.int .i64 _) := HB.out.cell 8 rfl)
      have hv := HV.out
      simp only [List.length_append] at hv
      go_ret
      exact ⟨_, rfl, by rw [HIE.out]; exact hv, HW.out⟩

/-- The document's encoder. -/
theorem rencode_any (c : Cmd) (w : World) (hp0 : -9223372036854775808 ≤ c.p) (hp1 : c.p ≤ 9223372036854775807) (hq0 : -9223372036854775808 ≤ c.q) (hq1 : c.q ≤ 9223372036854775807) :
    Calls Tryd.prog 187 #[.agg c.cells] w (EncIs c w) := by
  have HW := Lib.hid (show Below w.heap.size w (w.alloc (.cells c.cells 164)) from (Below.refl _ _).alloc (Nat.le_refl _) _)
  have HRC := Lib.hid (rright_any c)
  have HFC := Lib.hid (fun W hr => form_any c W hr hp0 hp1 hq0 hq1)
  cases hr : rightC c with
  | false =>
    have HF := Lib.hid hr
    rw [hr] at HRC
    obtain ⟨k, s, i, a, b, t, p, q, f⟩ := c
    unfold Cmd.cells at *
    clear hr
    go_enter Tryd.func187, Tryd.ntmps187
    go_wp2_with fail
    refine (HRC.out _).mono ?_
    rintro e w1 ⟨rfl, hb1⟩
    go_wp2_with fail
    go_ret2
    exact .inr ⟨HF.out, rfl, HW.out.trans (hb1.mono (by simp))⟩
  | true =>
    have HF := Lib.hid hr
    rw [hr] at HRC
    have HB := Lib.hid (Blk.new w c.cells 164 w.heap.size rfl)
    obtain ⟨k, s, i, a, b, t, p, q, f⟩ := c
    unfold Cmd.cells at *
    clear hr
    go_enter Tryd.func187, Tryd.ntmps187
    go_wp2_with fail
    refine (HRC.out _).mono ?_
    rintro e w1 ⟨rfl, hb1⟩
    replace HB := Lib.hid (HB.out.below hb1 HB.out.lt)
    replace HW := Lib.hid (HW.out.trans (hb1.mono (by simp)))
    clear hb1
    go_wp2_with (refine load_blk rfl 164 _ rfl _ rfl _ _ HB.out _ Tryd.underlying164 rfl (by kernel_rfl) ?_)
    refine (HFC.out _ HF.out).mono ?_
    rintro e w2 ⟨v, rfl, hv, hb⟩
    go_wp2_with fail
    go_ret2
    exact .inl ⟨HF.out, _, rfl, own_mono hv HW.out.size, HW.out.trans (hb.mono HW.out.size)⟩
end Go.Proofs.YtmkcooamgojbpaaDoor.Cmds

/- script.Of and the document's. -/
namespace Go.Proofs.YtmkcooamgojbpaaDoor.Cmds
set_option linter.unusedVariables false
open Go.RowKit Go.Proofs.YtmkcooamgojbpaaDoor.Kit Go.Proofs.YtmkcooamgojbpaaDoor.Blk Go.Proofs.YtmkcooamgojbpaaDoor.Octets Go.Proofs.YtmkcooamgojbpaaDoor.Blk
attribute [local go_sem ↓] Go.wp_at_zero Go.wp_at_succ

def stepC (k y v : Int) (u : Value) : Array Value := #[.int .i64 k, .int .i64 y, .int .i64 v, u]
theorem one_step (k y v : Int) (a : Option Addr) (n c : Nat) : ∀ u ∈ (stepC k y v (.slice a n c)).toList, u.oneCell' = true := by
  simp [stepC, Value.oneCell']
/-- The step that a command gives. -/
def OfIs (c : Cmd) (w : World) (e : Ending) (w' : World) : Prop :=
  (rightC c = true ∧ ∃ v, e = .returned (.tuple #[.agg (stepC 1 0 0 v), .int .i64 0]) ∧ Own w.heap.size (formC c) v w' ∧ Below w.heap.size w w') ∨
  (rightC c = false ∧ e = .returned (.tuple #[.agg (stepC 0 0 0 (.slice none 0 0)), .int .i64 1]) ∧ Below w.heap.size w w')

theorem own_set {N B : Nat} {l : List Nat} {v : Value} {W : World} (h : Own N l v W) (hne : v.ownBlock ≠ some B) (j : Nat) (u : Value) : Own N l v (W.setCell ⟨B, j, none⟩ u) :=
  h.kept (grown_cell W B j u) (.inr hne)

set_option maxRecDepth 20000 in
set_option maxHeartbeats 4000000 in
theorem of_any (c : Cmd) (w : World) (hp0 : -9223372036854775808 ≤ c.p) (hp1 : c.p ≤ 9223372036854775807) (hq0 : -9223372036854775808 ≤ c.q) (hq1 : c.q ≤ 9223372036854775807) :
    Calls Tryd.prog 185 #[.agg c.cells] w (OfIs c w) := by
  have HB := Lib.hid (Blk.new w c.cells 164 w.heap.size rfl)
  have HC := Lib.hid (fun W => encode_any c W hp0 hp1 hq0 hq1)
  have HR := Lib.hid (Blk.new (w.alloc (.cells c.cells 164)) (stepC 0 0 0 (.slice none 0 0)) 42 (w.heap.size + 1) (by simp))
  have HW := Lib.hid (show Below w.heap.size w ((w.alloc (.cells c.cells 164)).alloc (.cells (stepC 0 0 0 (.slice none 0 0)) 42)) from ((Below.refl _ _).alloc (Nat.le_refl _) _).alloc (by simp) _)
  obtain ⟨k, s, i, a, b, t, p, q, f⟩ := c
  unfold Cmd.cells at *
  go_enter Tryd.func185, Tryd.ntmps185
  go_wp2_with fail
  refine (HC.out _).mono ?_
  rintro e w1 (⟨hr, v, rfl, hv, hb⟩ | ⟨hr, rfl, hb⟩)
  · obtain ⟨g, cap, rfl, -, -⟩ := World.ownsRow.form hv (by simp [formC])
    replace HR := Lib.hid (HR.out.below hb HR.out.lt)
    replace HW := Lib.hid (HW.out.trans (hb.mono (by simp; omega)))
    have HF := Lib.hid hr
    have HO := Lib.hid (own_mono hv (N := w.heap.size) (by simp; omega))
    have HO2 := Lib.hid (show ((w.alloc (.cells #[.int .i64 k, .int .i64 s, .int .i64 i, .int .i64 a, .int .i64 b, .int .i64 t, .int .i64 p, .int .i64 q, .int .i64 f] 164)).alloc (.cells (stepC 0 0 0 (.slice none 0 0)) 42)).heap.size ≤ g from (World.ownsRow.lt hv g rfl).1)
    clear hr hv hb
    generalize hl : (formC ⟨k, s, i, a, b, t, p, q, f⟩) = l at HO ⊢
    have HLE := Lib.hid hl
    clear hl
    have c0 : w1.cell? ⟨w.heap.size + 1, 0, none⟩ = some (.int .i64 0) := HR.out.cell 0 rfl
    have c1 : w1.cell? ⟨w.heap.size + 1, 1, none⟩ = some (.int .i64 0) := HR.out.cell 1 rfl
    have c2 : w1.cell? ⟨w.heap.size + 1, 2, none⟩ = some (.int .i64 0) := HR.out.cell 2 rfl
    have c3 : w1.cell? ⟨w.heap.size + 1, 3, none⟩ = some (.slice none 0 0) := HR.out.cell 3 rfl
    have f0 : w1.frozen? ⟨w.heap.size + 1, 0, none⟩ = false := HR.out.free 0
    have f1 : w1.frozen? ⟨w.heap.size + 1, 1, none⟩ = false := HR.out.free 1
    have f2 : w1.frozen? ⟨w.heap.size + 1, 2, none⟩ = false := HR.out.free 2
    have f3 : w1.frozen? ⟨w.heap.size + 1, 3, none⟩ = false := HR.out.free 3
    go_wp2_with fail
    have hx := HR.out.setCells (stepC 1 0 0 (.slice (some ⟨g, 0, none⟩) l.length cap)) rfl
    have hw := Blk.Below.setCells (stepC 1 0 0 (.slice (some ⟨g, 0, none⟩) l.length cap)).toList 0 _ HW.out (B := w.heap.size + 1) (by omega)
    have hg : (Value.slice (some ⟨g, 0, none⟩) l.length cap).ownBlock ≠ some (w.heap.size + 1) := by
      intro e
      have e' : some g = some (w.heap.size + 1) := e
      injection e' with e'
      have := HO2.out
      simp at this
      omega
    refine bodyPost_ret (results_blk_tmp rfl rfl hx Tryd.underlying42 rfl (by kernel_rfl)) rfl ?_
    exact .inl ⟨HF.out, _, rfl, by rw [HLE.out]; exact own_set (own_set (own_set (own_set HO.out hg 0 _) hg 1 _) hg 2 _) hg 3 _, hw⟩
  · replace HR := Lib.hid (HR.out.below hb HR.out.lt)
    replace HW := Lib.hid (HW.out.trans (hb.mono (by simp; omega)))
    have HF := Lib.hid hr
    clear hr hb
    have c0 : w1.cell? ⟨w.heap.size + 1, 0, none⟩ = some (.int .i64 0) := HR.out.cell 0 rfl
    have c1 : w1.cell? ⟨w.heap.size + 1, 1, none⟩ = some (.int .i64 0) := HR.out.cell 1 rfl
    have c2 : w1.cell? ⟨w.heap.size + 1, 2, none⟩ = some (.int .i64 0) := HR.out.cell 2 rfl
    have c3 : w1.cell? ⟨w.heap.size + 1, 3, none⟩ = some (.slice none 0 0) := HR.out.cell 3 rfl
    have f0 : w1.frozen? ⟨w.heap.size + 1, 0, none⟩ = false := HR.out.free 0
    have f1 : w1.frozen? ⟨w.heap.size + 1, 1, none⟩ = false := HR.out.free 1
    have f2 : w1.frozen? ⟨w.heap.size + 1, 2, none⟩ = false := HR.out.free 2
    have f3 : w1.frozen? ⟨w.heap.size + 1, 3, none⟩ = false := HR.out.free 3
    go_wp2_with fail
    have hx := HR.out.setCells (stepC 0 0 0 (.slice none 0 0)) rfl
    have hw := Blk.Below.setCells (stepC 0 0 0 (.slice none 0 0)).toList 0 _ HW.out (B := w.heap.size + 1) (by omega)
    refine bodyPost_ret (results_blk_tmp rfl rfl hx Tryd.underlying42 rfl (by kernel_rfl)) rfl ?_
    exact .inr ⟨HF.out, rfl, hw⟩

set_option maxRecDepth 20000 in
set_option maxHeartbeats 4000000 in
theorem rof_any (c : Cmd) (w : World) (hp0 : -9223372036854775808 ≤ c.p) (hp1 : c.p ≤ 9223372036854775807) (hq0 : -9223372036854775808 ≤ c.q) (hq1 : c.q ≤ 9223372036854775807) :
    Calls Tryd.prog 142 #[.agg c.cells] w (OfIs c w) := by
  have HB := Lib.hid (Blk.new w c.cells 164 w.heap.size rfl)
  have HC := Lib.hid (fun W => rencode_any c W hp0 hp1 hq0 hq1)
  have HR := Lib.hid (Blk.new (w.alloc (.cells c.cells 164)) (stepC 0 0 0 (.slice none 0 0)) 42 (w.heap.size + 1) (by simp))
  have HW := Lib.hid (show Below w.heap.size w ((w.alloc (.cells c.cells 164)).alloc (.cells (stepC 0 0 0 (.slice none 0 0)) 42)) from ((Below.refl _ _).alloc (Nat.le_refl _) _).alloc (by simp) _)
  obtain ⟨k, s, i, a, b, t, p, q, f⟩ := c
  unfold Cmd.cells at *
  go_enter Tryd.func142, Tryd.ntmps142
  go_wp2_with fail
  refine (HC.out _).mono ?_
  rintro e w1 (⟨hr, v, rfl, hv, hb⟩ | ⟨hr, rfl, hb⟩)
  · obtain ⟨g, cap, rfl, -, -⟩ := World.ownsRow.form hv (by simp [formC])
    replace HR := Lib.hid (HR.out.below hb HR.out.lt)
    replace HW := Lib.hid (HW.out.trans (hb.mono (by simp; omega)))
    have HF := Lib.hid hr
    have HO := Lib.hid (own_mono hv (N := w.heap.size) (by simp; omega))
    have HO2 := Lib.hid (show ((w.alloc (.cells #[.int .i64 k, .int .i64 s, .int .i64 i, .int .i64 a, .int .i64 b, .int .i64 t, .int .i64 p, .int .i64 q, .int .i64 f] 164)).alloc (.cells (stepC 0 0 0 (.slice none 0 0)) 42)).heap.size ≤ g from (World.ownsRow.lt hv g rfl).1)
    clear hr hv hb
    generalize hl : (formC ⟨k, s, i, a, b, t, p, q, f⟩) = l at HO ⊢
    have HLE := Lib.hid hl
    clear hl
    have c0 : w1.cell? ⟨w.heap.size + 1, 0, none⟩ = some (.int .i64 0) := HR.out.cell 0 rfl
    have c1 : w1.cell? ⟨w.heap.size + 1, 1, none⟩ = some (.int .i64 0) := HR.out.cell 1 rfl
    have c2 : w1.cell? ⟨w.heap.size + 1, 2, none⟩ = some (.int .i64 0) := HR.out.cell 2 rfl
    have c3 : w1.cell? ⟨w.heap.size + 1, 3, none⟩ = some (.slice none 0 0) := HR.out.cell 3 rfl
    have f0 : w1.frozen? ⟨w.heap.size + 1, 0, none⟩ = false := HR.out.free 0
    have f1 : w1.frozen? ⟨w.heap.size + 1, 1, none⟩ = false := HR.out.free 1
    have f2 : w1.frozen? ⟨w.heap.size + 1, 2, none⟩ = false := HR.out.free 2
    have f3 : w1.frozen? ⟨w.heap.size + 1, 3, none⟩ = false := HR.out.free 3
    go_wp2_with fail
    have hx := HR.out.setCells (stepC 1 0 0 (.slice (some ⟨g, 0, none⟩) l.length cap)) rfl
    have hw := Blk.Below.setCells (stepC 1 0 0 (.slice (some ⟨g, 0, none⟩) l.length cap)).toList 0 _ HW.out (B := w.heap.size + 1) (by omega)
    have hg : (Value.slice (some ⟨g, 0, none⟩) l.length cap).ownBlock ≠ some (w.heap.size + 1) := by
      intro e
      have e' : some g = some (w.heap.size + 1) := e
      injection e' with e'
      have := HO2.out
      simp at this
      omega
    refine bodyPost_ret (results_blk_tmp rfl rfl hx Tryd.underlying42 rfl (by kernel_rfl)) rfl ?_
    exact .inl ⟨HF.out, _, rfl, by rw [HLE.out]; exact own_set (own_set (own_set (own_set HO.out hg 0 _) hg 1 _) hg 2 _) hg 3 _, hw⟩
  · replace HR := Lib.hid (HR.out.below hb HR.out.lt)
    replace HW := Lib.hid (HW.out.trans (hb.mono (by simp; omega)))
    have HF := Lib.hid hr
    clear hr hb
    have c0 : w1.cell? ⟨w.heap.size + 1, 0, none⟩ = some (.int .i64 0) := HR.out.cell 0 rfl
    have c1 : w1.cell? ⟨w.heap.size + 1, 1, none⟩ = some (.int .i64 0) := HR.out.cell 1 rfl
    have c2 : w1.cell? ⟨w.heap.size + 1, 2, none⟩ = some (.int .i64 0) := HR.out.cell 2 rfl
    have c3 : w1.cell? ⟨w.heap.size + 1, 3, none⟩ = some (.slice none 0 0) := HR.out.cell 3 rfl
    have f0 : w1.frozen? ⟨w.heap.size + 1, 0, none⟩ = false := HR.out.free 0
    have f1 : w1.frozen? ⟨w.heap.size + 1, 1, none⟩ = false := HR.out.free 1
    have f2 : w1.frozen? ⟨w.heap.size + 1, 2, none⟩ = false := HR.out.free 2
    have f3 : w1.frozen? ⟨w.heap.size + 1, 3, none⟩ = false := HR.out.free 3
    go_wp2_with fail
    have hx := HR.out.setCells (stepC 0 0 0 (.slice none 0 0)) rfl
    have hw := Blk.Below.setCells (stepC 0 0 0 (.slice none 0 0)).toList 0 _ HW.out (B := w.heap.size + 1) (by omega)
    refine bodyPost_ret (results_blk_tmp rfl rfl hx Tryd.underlying42 rfl (by kernel_rfl)) rfl ?_
    exact .inr ⟨HF.out, rfl, hw⟩
end Go.Proofs.YtmkcooamgojbpaaDoor.Cmds

/- Rows of steps; damperref29.Same. -/
namespace Go.Proofs.YtmkcooamgojbpaaDoor.Steps
set_option linter.unusedVariables false
open Go.RowKit Go.Proofs.YtmkcooamgojbpaaDoor.Kit Go.Proofs.YtmkcooamgojbpaaDoor.Blk Go.Proofs.YtmkcooamgojbpaaDoor.Octets Go.Proofs.YtmkcooamgojbpaaDoor.Cmds
attribute [local go_sem ↓] Go.wp_at_zero Go.wp_at_succ

/-- A step: three numbers and bytes (none: nil). -/
structure Stp where
  k : Int
  y : Int
  v : Int
  l : List Nat
def BytesOf (N : Nat) (l : List Nat) (u : Value) (W : World) : Prop := (l = [] ∧ u = .slice none 0 0) ∨ (0 < l.length ∧ Own N l u W)
def flat : List (Stp × Value) → List Value
  | [] => []
  | (s, u) :: r => .int .i64 s.k :: .int .i64 s.y :: .int .i64 s.v :: u :: flat r
theorem flat_len (r : List (Stp × Value)) : (flat r).length = r.length * 4 := by
  induction r with
  | nil => rfl
  | cons x r ih => obtain ⟨s, u⟩ := x; simp [flat, ih]; omega
theorem flat_app (r t : List (Stp × Value)) : flat (r ++ t) = flat r ++ flat t := by
  induction r with
  | nil => rfl
  | cons x r ih => obtain ⟨s, u⟩ := x; simp [flat, ih]
theorem flat_at (r : List (Stp × Value)) (i : Nat) (h : i < r.length) : (flat r)[i * 4]? = some (.int .i64 r[i].1.k) ∧ (flat r)[i * 4 + 1]? = some (.int .i64 r[i].1.y) ∧ (flat r)[i * 4 + 2]? = some (.int .i64 r[i].1.v) ∧ (flat r)[i * 4 + 3]? = some r[i].2 := by
  induction r generalizing i with
  | nil => exact absurd h (by simp)
  | cons x r ih =>
    obtain ⟨s, u⟩ := x
    cases i with
    | zero => exact ⟨rfl, rfl, rfl, rfl⟩
    | succ i =>
      have h' := ih i (by simpa using h)
      rw [show (i + 1) * 4 = i * 4 + 1 + 1 + 1 + 1 by omega, show i * 4 + 1 + 1 + 1 + 1 + 1 = (i * 4 + 1) + 1 + 1 + 1 + 1 by omega]
      simpa [flat] using h'
/-- A row of steps, each with bytes of its own. -/
def Row (N : Nat) (v : Value) (ss : List Stp) (W : World) : Prop :=
  ∃ r : List (Stp × Value), r.map (·.1) = ss ∧ W.ownsRow N 42 4 v r.length (flat r) ∧ ∀ x ∈ r, BytesOf N x.1.l x.2 W

set_option maxRecDepth 20000 in
set_option maxHeartbeats 4000000 in
theorem same_steps (N M : Nat) (ss : List Stp) (h0 : 0 < ss.length) (hl : ss.length ≤ 1000) (v u : Value) (w : World) (hv : Row N v ss w) (hu : Row M u ss w) :
    Calls Tryd.prog 38 #[v, u] w fun e w' => e = .returned (.bool true) ∧ Below w.heap.size w w' ∧ w'.heap = w.heap := by
  obtain ⟨r, hr, hrow, hb⟩ := hv
  obtain ⟨r2, hr2, hrow2, hb2⟩ := hu
  have hn : r.length = ss.length := by rw [← hr, List.length_map]
  have hn2 : r2.length = ss.length := by rw [← hr2, List.length_map]
  obtain ⟨g, cap, rfl, -, -⟩ := World.ownsRow.form hrow (by omega)
  obtain ⟨g2, cap2, rfl, -, -⟩ := World.ownsRow.form hrow2 (by omega)
  have HC := Lib.hid (World.ownsRow.cells hrow rfl)
  have HC2 := Lib.hid (World.ownsRow.cells hrow2 rfl)
  rw [hn, hn2]
  clear hrow hrow2
  go_enter Tryd.func38, Tryd.ntmps38
  go_wp2_with fail
  go_loopw [5] (fun i wr => ∃ k : Nat, k ≤ ss.length ∧ i = .int .i64 k ∧ Below w.heap.size w wr ∧ wr.heap = w.heap) (fun i _ => ss.length - (intOf i).toNat)
  case atStart => exact ⟨0, by omega, rfl, Below.refl _ _, rfl⟩
  case round =>
    obtain ⟨k, hk, rfl, hbw, hwr⟩ := hrel
    by_cases hlt : k < ss.length
    · have hk1 : k < r.length := by omega
      have hk2 : k < r2.length := by omega
      have e1 : r[k].1 = ss[k] := by simp [← hr]
      have e2 : r2[k].1 = ss[k] := by simp [← hr2]
      have hx := hb r[k] (List.getElem_mem hk1)
      have hy := hb2 r2[k] (List.getElem_mem hk2)
      obtain ⟨a0, a1, a2, a3⟩ := flat_at r k hk1
      obtain ⟨b0, b1, b2, b3⟩ := flat_at r2 k hk2
      rw [e1] at hx a0 a1 a2
      rw [e2] at hy b0 b1 b2
      have c0 := HC.out _ _ a0
      have c1 := HC.out _ _ a1
      have c2 := HC.out _ _ a2
      have c3 := HC.out _ _ a3
      have d0 := HC2.out _ _ b0
      have d1 := HC2.out _ _ b1
      have d2 := HC2.out _ _ b2
      have d3 := HC2.out _ _ b3
      rw [Addr.add_mid, Nat.zero_add] at c0 c1 c2 c3 d0 d1 d2 d3
      have hcell : ∀ p, w.cell? p = wr.cell? p := fun p => by simp [World.cell?, hwr]
      rw [hcell] at c0 c1 c2 c3 d0 d1 d2 d3
      clear hcell
      clear HC HC2 a0 a1 a2 a3 b0 b1 b2 b3 hb hb2 e1 e2
      generalize r[k].2 = x at hx c3
      generalize r2[k].2 = y at hy d3
      generalize ss[k] = s at hx hy c0 c1 c2 d0 d1 d2
      have HS := Lib.hid (show ∀ W, W.heap = w.heap → Calls Tryd.prog 97 #[x, y] W fun e w' => e = .returned (.bool true) ∧ w' = W from fun W hW => by
        refine Calls.mono (R := fun e w' => e = .returned (.bool true) ∧ W = w') ?_ (fun _ _ ⟨h, h'⟩ => ⟨h, h'.symm⟩)
        rcases hx with ⟨h1, rfl⟩ | ⟨h1, hx⟩
        · rcases hy with ⟨_, rfl⟩ | ⟨h2, _⟩
          · exact same_nil W
          · rw [h1] at h2; exact absurd h2 (by simp)
        · rcases hy with ⟨h2, _⟩ | ⟨_, hy⟩
          · rw [h2] at h1; exact absurd h1 (by simp)
          · exact same_any N M s.l h1 x y W (by unfold Own World.ownsRow at hx ⊢; rw [hW]; exact hx) (by unfold Own World.ownsRow at hy ⊢; rw [hW]; exact hy))
      clear hx hy hr hr2
      go_wp2_with fail
      have HH := Lib.hid hwr
      have HBW := Lib.hid hbw
      clear hwr hbw
      go_quiet ((go_at_call 97; exact Calls.quiet_of_same (HS.out _ HH.out)))
      replace HH := Lib.hid (show (wr.drewN nq).heap = w.heap from HH.out)
      replace HBW := Lib.hid (below_drewN HBW.out nq)
      generalize wr.drewN nq = w2 at HH HBW ⊢
      go_wp2_with fail
      go_roundw
      case rel => exact ⟨k + 1, by omega, by go_num, HBW.out, HH.out⟩
      case measure => simp [intOf]; omega
    · go_wp2_with fail
      go_ret
      exact ⟨rfl, hbw, hwr⟩
end Go.Proofs.YtmkcooamgojbpaaDoor.Steps

/- Rows of steps: what appending keeps. -/
namespace Go.Proofs.YtmkcooamgojbpaaDoor.Steps
open Go.RowKit Go.Proofs.YtmkcooamgojbpaaDoor.Kit Go.Proofs.YtmkcooamgojbpaaDoor.Blk Go.Proofs.YtmkcooamgojbpaaDoor.Octets Go.Proofs.YtmkcooamgojbpaaDoor.Cmds

/-- A row of steps with its fourth cells told. -/
def RowR (N : Nat) (v : Value) (r : List (Stp × Value)) (W : World) : Prop :=
  W.ownsRow N 42 4 v r.length (flat r) ∧ ∀ x ∈ r, BytesOf N x.1.l x.2 W
theorem RowR.row {N : Nat} {v : Value} {r : List (Stp × Value)} {W : World} (h : RowR N v r W) : Row N v (r.map (·.1)) W := ⟨r, rfl, h.1, h.2⟩
theorem bytes_grown {N M k : Nat} {l : List Nat} {u v : Value} {xs : List Value} {W w1 : World} (h : BytesOf N l u W) (hr : W.ownsRow M 42 4 v k xs) (hg : W.grownBy w1 v.ownBlock) : BytesOf N l u w1 := by
  rcases h with h | ⟨h0, h⟩
  · exact .inl h
  · refine .inr ⟨h0, World.ownsRow.kept h hg ?_⟩
    cases hu : u.ownBlock with
    | none => exact .inl rfl
    | some j =>
      right
      intro e
      obtain ⟨_, cur, hc⟩ := row_from' h hu
      obtain ⟨_, cur2, hc2⟩ := row_from' hr e.symm
      rw [hc] at hc2
      injection hc2 with hc2
      injection hc2 with _ hc2 _
      exact absurd hc2 (by decide)
theorem bytes_below {N : Nat} {l : List Nat} {u : Value} {W W' : World} (h : BytesOf N l u W) (hb : Below W.heap.size W W') : BytesOf N l u W' := by
  rcases h with h | ⟨h0, h⟩
  · exact .inl h
  · exact .inr ⟨h0, own_below h hb⟩
theorem RowR.below {N : Nat} {v : Value} {r : List (Stp × Value)} {W W' : World} (h : RowR N v r W) (hb : Below W.heap.size W W') : RowR N v r W' :=
  ⟨h.1.kept (row := none) ⟨hb.os, hb.tape, hb.output, hb.size, fun k hk _ => hb.block k hk⟩ (by
    cases v.ownBlock with
    | none => exact .inl rfl
    | some j => exact .inr (by simp)), fun x hx => bytes_below (h.2 x hx) hb⟩
theorem RowR.push {N : Nat} {v v' u : Value} {r : List (Stp × Value)} {s : Stp} {W w1 : World} (h : RowR N v r W) (hu : BytesOf N s.l u W)
    (hown : w1.ownsRow N 42 4 v' (r.length + 1) (flat r ++ (stepC s.k s.y s.v u).toList)) (hg : W.grownBy w1 v.ownBlock) : RowR N v' (r ++ [(s, u)]) w1 := by
  refine ⟨by rw [List.length_append, flat_app]; exact hown, fun x hx => ?_⟩
  rcases List.mem_append.1 hx with hx | hx
  · exact bytes_grown (h.2 x hx) h.1 hg
  · obtain rfl := List.mem_singleton.1 hx
    exact bytes_grown hu h.1 hg
end Go.Proofs.YtmkcooamgojbpaaDoor.Steps

/- octets.Reader: its state in memory; take. -/
namespace Go.Proofs.YtmkcooamgojbpaaDoor.Octets
open Go.RowKit Go.Proofs.YtmkcooamgojbpaaDoor.Kit Go.Proofs.YtmkcooamgojbpaaDoor.Blk
attribute [local go_sem ↓] Go.wp_at_zero Go.wp_at_succ
set_option linter.unusedVariables false

/-- Bytes somewhere in memory, in a block from N on and below M. -/
def AtB (N M : Nat) (l : List Nat) (v : Value) (W : World) : Prop :=
  (l = [] ∧ v = .slice none 0 0) ∨ ∃ g o c, v = .slice (some ⟨g, o, none⟩) l.length c ∧ l.length ≤ c ∧ c ≤ maxLen ∧ N ≤ g ∧ g < M ∧ ∀ i, (h : i < l.length) → W.cell? ⟨g, o + i, none⟩ = some (.int .u8 (l[i] : Int))
section
variable {N M : Nat} {l : List Nat} {v : Value} {W W' : World}
theorem AtB.keep (h : AtB N M l v W) (hk : ∀ b, N ≤ b → b < M → W'.heap[b]? = W.heap[b]?) : AtB N M l v W' := by
  rcases h with h | ⟨g, o, c, h1, h2, h3, h4, h5, h6⟩
  · exact .inl h
  · exact .inr ⟨g, o, c, h1, h2, h3, h4, h5, fun i hi => by rw [World.cell?_of_block (a := ⟨g, o + i, none⟩) (hk g h4 h5)]; exact h6 i hi⟩
theorem AtB.below {n : Nat} (h : AtB N M l v W) (hM : M ≤ n) (hb : Below n W W') : AtB N M l v W' := h.keep (fun b _ hb' => hb.block b (by omega))
theorem AtB.chg {n P : Nat} (h : AtB N M l v W) (hM : M ≤ n) (hP : P < N ∨ M ≤ P) (hc : Chg n P W W') : AtB N M l v W' := h.keep (fun b h1 h2 => hc.block b (by omega) (by omega))
theorem AtB.mono {N' M' : Nat} (h : AtB N M l v W) (hN : N' ≤ N) (hM : M ≤ M') : AtB N' M' l v W := by
  rcases h with h | ⟨g, o, c, h1, h2, h3, h4, h5, h6⟩
  · exact .inl h
  · exact .inr ⟨g, o, c, h1, h2, h3, by omega, by omega, h6⟩
theorem AtB.len (h : AtB N M l v W) : ∃ a c, v = .slice a l.length c ∧ l.length ≤ c ∧ c ≤ maxLen := by
  rcases h with ⟨h, rfl⟩ | ⟨g, o, c, h1, h2, h3, -⟩
  · subst h; exact ⟨none, 0, rfl, Nat.le_refl _, Nat.zero_le _⟩
  · exact ⟨_, c, h1, h2, h3⟩
end
/-- A reader at P whose bytes lie below P: a fault, or what is left. -/
def RdS (N P : Nat) (st : Int ⊕ List Nat) (W : World) : Prop := match st with
  | .inl f => f ≠ 0 ∧ ∃ a n c, Blk W P #[.slice a n c, .int .i64 f] 238
  | .inr l => (∀ b ∈ l, b < 256) ∧ ∃ v, Blk W P #[v, .int .i64 0] 238 ∧ AtB N P l v W
def faultR (st : Int ⊕ List Nat) : Int := match st with
  | .inl f => f
  | .inr _ => 0
/-- A reading, of a reader. -/
def rdF {α : Type} (r : List Nat → Rd α) (z : α) (st : Int ⊕ List Nat) : α × (Int ⊕ List Nat) := match st with
  | .inl f => (z, .inl f)
  | .inr l => match r l with
    | .bad f => (z, .inl f)
    | .ok x l' => (x, .inr l')
theorem RdS.below {N P n : Nat} {st : Int ⊕ List Nat} {W W' : World} (h : RdS N P st W) (hP : P < n) (hb : Below n W W') : RdS N P st W' := by
  cases st with
  | inl f =>
    obtain ⟨h1, a, m, c, h2⟩ := h
    exact ⟨h1, a, m, c, h2.below hb hP⟩
  | inr l =>
    obtain ⟨h1, v, h2, h3⟩ := h
    exact ⟨h1, v, h2.below hb hP, h3.below (by omega) hb⟩
theorem RdS.lt {N P : Nat} {st : Int ⊕ List Nat} {W : World} (h : RdS N P st W) : P < W.heap.size := by
  cases st with
  | inl f => obtain ⟨h1, a, m, c, h2⟩ := h; exact h2.lt
  | inr l => obtain ⟨h1, v, h2, h3⟩ := h; exact h2.lt
theorem RdS.chg {N P n d : Nat} {st : Int ⊕ List Nat} {W W' : World} (h : RdS N P st W) (hP : P < n) (hd : d < N ∨ P < d) (hN : N ≤ P) (hc : Chg n d W W') : RdS N P st W' := by
  cases st with
  | inl f =>
    obtain ⟨h1, a, m, c, h2⟩ := h
    exact ⟨h1, a, m, c, hc.blk hP (by omega) h2⟩
  | inr l =>
    obtain ⟨h1, v, h2, h3⟩ := h
    exact ⟨h1, v, hc.blk hP (by omega) h2, h3.chg (by omega) (by omega) hc⟩
theorem take_bad (N P : Nat) (f n : Int) (w : World) (h : RdS N P (.inl f) w) :
    Calls Tryd.prog 203 #[.pointer (some ⟨P, 0, none⟩), .int .i64 n] w fun e w' => e = .returned (.tuple #[.slice none 0 0, .bool false]) ∧ w = w' := by
  obtain ⟨hf, a, m, c, hb⟩ := h
  have c1 : w.cell? ⟨P, 1, none⟩ = some (.int .i64 f) := hb.cell 1 rfl
  have b1 : (f != 0) = true := by simpa using hf
  clear hb hf
  go_enter Tryd.func203, Tryd.ntmps203
  go_wp2_with fail
  go_ret2
  exact ⟨rfl, rfl⟩
theorem take_short (N P n : Nat) (l : List Nat) (w : World) (h : RdS N P (.inr l) w) (hn : l.length < n) :
    Calls Tryd.prog 203 #[.pointer (some ⟨P, 0, none⟩), .int .i64 n] w fun e w' => e = .returned (.tuple #[.slice none 0 0, .bool false]) ∧ RdS N P (.inl 3) w' ∧ Chg w.heap.size P w w' := by
  obtain ⟨hby, v, hb, hat⟩ := h
  obtain ⟨a, c, rfl, h1, h2⟩ := hat.len
  have c0 : w.cell? ⟨P, 0, none⟩ = some (.slice a l.length c) := hb.cell 0 rfl
  have c1 : w.cell? ⟨P, 1, none⟩ = some (.int .i64 0) := hb.cell 1 rfl
  have f1 := hb.free 1
  have hn' : (l.length : Int) < n := by omega
  have HE := Lib.hid (show RdS N P (.inl 3) (w.setCell ⟨P, 1, none⟩ (.int .i64 3)) from ⟨by decide, a, l.length, c, hb.set 1 _⟩)
  clear hb hat h2 hby
  go_enter Tryd.func203, Tryd.ntmps203
  go_wp2_with fail
  go_ret2
  exact ⟨rfl, HE.out, (Chg.refl _ _ _).setCell _ _ (.inl rfl)⟩
/-- What take answers where there are so many. -/
def TakeIs (N P n : Nat) (l : List Nat) (w : World) (e : Ending) (w' : World) : Prop :=
  ∃ v, e = .returned (.tuple #[v, .bool true]) ∧ AtB N P (l.take n) v w' ∧ RdS N P (.inr (l.drop n)) w' ∧ Chg w.heap.size P w w'
theorem atB_take {N M n : Nat} {l : List Nat} {g o c : Nat} {W : World} (hn : n ≤ l.length) (h2 : n ≤ c) (h3 : c ≤ maxLen) (h4 : N ≤ g) (h5 : g < M) (h6 : ∀ i, (h : i < l.length) → W.cell? ⟨g, o + i, none⟩ = some (.int .u8 (l[i] : Int))) :
    AtB N M (l.take n) (.slice (some ⟨g, o, none⟩) n c) W := by
  have hl : (l.take n).length = n := by rw [List.length_take]; omega
  refine .inr ⟨g, o, c, by rw [hl], by omega, h3, h4, h5, fun i hi => ?_⟩
  rw [List.getElem_take]
  exact h6 i (by omega)
theorem atB_drop {N M n : Nat} {l : List Nat} {g o c : Nat} {W : World} (hn : n ≤ l.length) (h2 : l.length ≤ c) (h3 : c ≤ maxLen) (h4 : N ≤ g) (h5 : g < M) (h6 : ∀ i, (h : i < l.length) → W.cell? ⟨g, o + i, none⟩ = some (.int .u8 (l[i] : Int))) :
    AtB N M (l.drop n) (.slice (some ⟨g, o + n, none⟩) (l.length - n) (c - n)) W := by
  have hl : (l.drop n).length = l.length - n := List.length_drop
  refine .inr ⟨g, o + n, c - n, by rw [hl], by omega, by omega, h4, h5, fun i hi => ?_⟩
  rw [List.getElem_drop, show o + n + i = o + (n + i) by omega]
  exact h6 (n + i) (by omega)
theorem rdS_set {N P : Nat} {l : List Nat} {v u : Value} {w : World} (hby : ∀ b ∈ l, b < 256) (hb : Blk w P #[u, .int .i64 0] 238) (h : AtB N P l v w) : RdS N P (.inr l) (w.setCell ⟨P, 0, none⟩ v) :=
  ⟨hby, v, hb.set 0 v, h.chg (n := w.heap.size) (Nat.le_of_lt hb.lt) (.inr (Nat.le_refl _)) ((Chg.refl _ _ _).setCell _ _ (.inl rfl))⟩
theorem take_some (N P n : Nat) (l : List Nat) (w : World) (h : RdS N P (.inr l) w) (hn : n ≤ l.length) :
    Calls Tryd.prog 203 #[.pointer (some ⟨P, 0, none⟩), .int .i64 n] w (TakeIs N P n l w) := by
  obtain ⟨hby, v, hb, hat⟩ := h
  have HBY := Lib.hid (show ∀ b ∈ l.drop n, b < 256 from fun b hm => hby b (List.mem_of_mem_drop hm))
  clear hby
  have c1 : w.cell? ⟨P, 1, none⟩ = some (.int .i64 0) := hb.cell 1 rfl
  have f0 := hb.free 0
  have HC := Lib.hid (fun v => show Chg w.heap.size P w (w.setCell ⟨P, 0, none⟩ v) from (Chg.refl _ _ _).setCell _ _ (.inl rfl))
  rcases hat with ⟨rfl, rfl⟩ | ⟨g, o, c, rfl, h2, h3, h4, h5, h6⟩
  · obtain rfl : n = 0 := by simpa using hn
    have c0 : w.cell? ⟨P, 0, none⟩ = some (.slice none 0 0) := hb.cell 0 rfl
    have HS := Lib.hid (rdS_set (N := N) HBY.out hb (.inl ⟨rfl, rfl⟩))
    clear hb
    go_enter Tryd.func203, Tryd.ntmps203
    go_wp2_with fail
    go_ret2
    exact ⟨_, rfl, .inl ⟨rfl, rfl⟩, HS.out, HC.out _⟩
  · have c0 : w.cell? ⟨P, 0, none⟩ = some (.slice (some ⟨g, o, none⟩) l.length c) := hb.cell 0 rfl
    have HT := Lib.hid ((atB_take hn (by omega) h3 h4 h5 h6).chg (n := w.heap.size) (Nat.le_of_lt hb.lt) (.inr (Nat.le_refl _)) (HC.out (.slice (some ⟨g, o + n, none⟩) (l.length - n) (c - n))))
    have HT2 := Lib.hid ((atB_take hn (by omega) h3 h4 h5 h6).chg (n := w.heap.size) (Nat.le_of_lt hb.lt) (.inr (Nat.le_refl _)) (HC.out (.slice (some ⟨g, o, none⟩) 0 0)))
    have HD := Lib.hid (rdS_set HBY.out hb (atB_drop hn h2 h3 h4 h5 h6))
    unfold maxLen at h3
    have g1 : (n : Int) ≤ l.length := by omega
    have g2 : (n : Int) ≤ c := by omega
    have g3 : (l.length : Int) ≤ c := by omega
    by_cases hc : n = c
    · have hd : l.drop n = [] := List.drop_of_length_le (by omega)
      have HD2 := Lib.hid (rdS_set HBY.out hb (show AtB N P (l.drop n) (.slice (some ⟨g, o, none⟩) 0 0) w from by rw [hd]; exact .inr ⟨g, o, 0, rfl, Nat.le_refl _, Nat.zero_le _, h4, h5, fun i hi => absurd hi (by simp)⟩))
      obtain rfl : l.length = n := by omega
      subst hc
      clear hb h6 hd
      go_enter Tryd.func203, Tryd.ntmps203
      go_wp2_with fail
      go_ret2
      exact ⟨_, rfl, HT2.out, HD2.out, HC.out _⟩
    · clear hb h6
      go_enter Tryd.func203, Tryd.ntmps203
      go_wp2_with fail
      go_ret2
      exact ⟨_, rfl, HT.out, HD.out, HC.out _⟩
end Go.Proofs.YtmkcooamgojbpaaDoor.Octets

/- octets.Reader: Fault, Left, NewReader, Uint, Int. -/
namespace Go.Proofs.YtmkcooamgojbpaaDoor.Octets
open Go.RowKit Go.Proofs.YtmkcooamgojbpaaDoor.Kit Go.Proofs.YtmkcooamgojbpaaDoor.Blk Go.Proofs.YtmkcooamgojbpaaDoor.Cmds
attribute [local go_sem ↓] Go.wp_at_zero Go.wp_at_succ
set_option linter.unusedVariables false

theorem fault_any (N P : Nat) (st : Int ⊕ List Nat) (w : World) (h : RdS N P st w) :
    Calls Tryd.prog 168 #[.pointer (some ⟨P, 0, none⟩)] w fun e w' => e = .returned (.int .i64 (faultR st)) ∧ w = w' := by
  have c1 : w.cell? ⟨P, 1, none⟩ = some (.int .i64 (faultR st)) := by
    cases st with
    | inl f => obtain ⟨h1, a, m, c, h2⟩ := h; exact h2.cell 1 rfl
    | inr l => obtain ⟨h1, v, h2, h3⟩ := h; exact h2.cell 1 rfl
  go_enter Tryd.func168, Tryd.ntmps168
  go_wp2_with fail
  go_ret
  exact ⟨rfl, rfl⟩
theorem left_any (N P : Nat) (l : List Nat) (w : World) (h : RdS N P (.inr l) w) :
    Calls Tryd.prog 169 #[.pointer (some ⟨P, 0, none⟩)] w fun e w' => e = .returned (.int .i64 l.length) ∧ w = w' := by
  obtain ⟨h1, v, h2, h3⟩ := h
  obtain ⟨a, c, rfl, h4, h5⟩ := h3.len
  have c0 : w.cell? ⟨P, 0, none⟩ = some (.slice a l.length c) := h2.cell 0 rfl
  clear h2 h3 h5
  go_enter Tryd.func169, Tryd.ntmps169
  go_wp2_with fail
  go_ret
  exact ⟨rfl, rfl⟩
/-- What a reading answers. -/
theorem or_shl {x b s : Nat} (hx : x * 2 ^ s < 18446744073709551616) (hb : b < 2 ^ s) (hs : 2 ^ s < 18446744073709551616) : bits .or .u64 (IntKind.u64.wrap ((x : Int) * (2 ^ s : Nat))) (b : Int) = ((x * 2 ^ s + b : Nat) : Int) := by
  have e : (x : Int) * (2 ^ s : Nat) = ((x * 2 ^ s : Nat) : Int) := by simp
  rw [e, IntWalk.u64_in _ (by omega), u64_or_nat _ _ hx (by omega), nat_join s _ _ (Nat.mul_mod_left _ _) hb]
theorem or_byte {x b : Nat} (hx : x < 256 ^ 7) (hb : b < 256) : bits .or .u64 (IntKind.u64.wrap ((x : Int) * 256)) (b : Int) = ((x * 256 + b : Nat) : Int) :=
  or_shl (x := x) (b := b) (s := 8) (by omega) (by omega) (by decide)
theorem beV_pow {l : List Nat} (h : ∀ b ∈ l, b < 256) {n : Nat} (hn : l.length ≤ n) : beV l < 256 ^ n := Nat.lt_of_lt_of_le (beV_lt l h) (Nat.pow_le_pow_right (by omega) hn)
def RdIs (N P : Nat) (st : Int ⊕ List Nat) (v : Value) (w : World) (e : Ending) (w' : World) : Prop := e = .returned v ∧ RdS N P st w' ∧ Chg w.heap.size P w w'
theorem beV_next {l : List Nat} {k : Nat} (h : k < l.length) : beV (l.take (k + 1)) = beV (l.take k) * 256 + l[k] := by
  rw [List.take_succ_eq_append_getElem h, beV_snoc]
set_option maxRecDepth 20000 in
theorem uint_bad (N P k : Nat) (h1 : 1 ≤ k) (h8 : k ≤ 8) (f : Int) (w : World) (h : RdS N P (.inl f) w) :
    Calls Tryd.prog 165 #[.pointer (some ⟨P, 0, none⟩), .int .i64 k] w (RdIs N P (.inl f) (.int .u64 0) w) := by
  have HT := Lib.hid (take_bad N P f k w h)
  have H := Lib.hid h
  have g1 : ¬ (k : Int) < 1 := by omega
  have g2 : ¬ 8 < (k : Int) := by omega
  clear h
  go_enter Tryd.func165, Tryd.ntmps165
  go_wp2_with fail
  refine HT.out.mono ?_
  rintro e w1 ⟨rfl, rfl⟩
  go_wp2_with fail
  go_loop [4, 23] (fun n i => n = .int .u64 0 ∧ i = .int .i64 0) (fun _ _ => 0)
  case atStart => exact ⟨rfl, rfl⟩
  case round =>
    obtain ⟨rfl, rfl⟩ := hrel
    go_wp2_with fail
    go_ret
    exact ⟨rfl, H.out, Chg.refl _ _ _⟩
set_option maxRecDepth 20000 in
theorem uint_short (N P k : Nat) (h1 : 1 ≤ k) (h8 : k ≤ 8) (l : List Nat) (w : World) (h : RdS N P (.inr l) w) (hn : l.length < k) :
    Calls Tryd.prog 165 #[.pointer (some ⟨P, 0, none⟩), .int .i64 k] w (RdIs N P (.inl 3) (.int .u64 0) w) := by
  have HT := Lib.hid (take_short N P k l w h hn)
  have g1 : ¬ (k : Int) < 1 := by omega
  have g2 : ¬ 8 < (k : Int) := by omega
  clear h
  go_enter Tryd.func165, Tryd.ntmps165
  go_wp2_with fail
  refine HT.out.mono ?_
  rintro e w1 ⟨rfl, h3, h4⟩
  have H3 := Lib.hid h3
  have H4 := Lib.hid h4
  clear h3 h4
  go_wp2_with fail
  go_loop [4, 23] (fun n i => n = .int .u64 0 ∧ i = .int .i64 0) (fun _ _ => 0)
  case atStart => exact ⟨rfl, rfl⟩
  case round =>
    obtain ⟨rfl, rfl⟩ := hrel
    go_wp2_with fail
    go_ret
    exact ⟨rfl, H3.out, H4.out⟩
set_option maxRecDepth 20000 in
theorem uint_some (N P k : Nat) (h1 : 1 ≤ k) (h8 : k ≤ 8) (l : List Nat) (w : World) (h : RdS N P (.inr l) w) (hn : k ≤ l.length) :
    Calls Tryd.prog 165 #[.pointer (some ⟨P, 0, none⟩), .int .i64 k] w (RdIs N P (.inr (l.drop k)) (.int .u64 (beV (l.take k))) w) := by
  have HT := Lib.hid (take_some N P k l w h hn)
  have g1 : ¬ (k : Int) < 1 := by omega
  have g2 : ¬ 8 < (k : Int) := by omega
  have hlen : (l.take k).length = k := by rw [List.length_take]; omega
  have HBY := Lib.hid (show ∀ b ∈ l.take k, b < 256 from fun b hm => h.1 b (List.mem_of_mem_take hm))
  clear h
  go_enter Tryd.func165, Tryd.ntmps165
  go_wp2_with fail
  refine HT.out.mono ?_
  rintro e w1 ⟨v, rfl, h2, h3, h4⟩
  have H3 := Lib.hid h3
  have H4 := Lib.hid h4
  clear h3 h4 HT
  generalize hm : l.take k = m at h2 hlen HBY
  have HM := Lib.hid hm
  clear hm
  obtain ⟨g, o, c, rfl, hc1, hc2, -, -, hcell⟩ := h2.resolve_left (fun h => by rw [h.1] at hlen; simp at hlen; omega)
  have HC := Lib.hid hcell
  clear hcell h2
  unfold maxLen at hc2
  rw [hlen]
  go_wp2_with fail
  go_loop [4, 23] (fun n i => ∃ j : Nat, j ≤ k ∧ i = .int .i64 j ∧ n = .int .u64 (beV (m.take j))) (fun _ i => k - (intOf i).toNat)
  case atStart => exact ⟨0, by omega, rfl, rfl⟩
  case round =>
    obtain ⟨j, hj, rfl, rfl⟩ := hrel
    by_cases hlt : j < k
    · have c1 : w1.cell? ⟨g, o + j, none⟩ = some (.int .u8 (m[j] : Int)) := HC.out j (by omega)
      have hb := HBY.out m[j] (List.getElem_mem (by omega))
      have HP := Lib.hid (or_byte (beV_pow (l := m.take j) (n := 7) (fun b hm => HBY.out b (List.mem_of_mem_take hm)) (by rw [List.length_take]; omega)) hb)
      have HN := Lib.hid (beV_next (l := m) (k := j) (by omega))
      generalize m[j] = b at c1 hb HN HP
      generalize m.take j = mj at HN HP ⊢
      go_wp2_with fail
      go_round
      case rel => exact ⟨j + 1, by omega, by go_num, by rw [HN.out, HP.out]⟩
      case measure => simp [intOf]; omega
    · obtain rfl : j = k := by omega
      rw [List.take_of_length_le (by omega)]
      go_wp2_with fail
      go_ret
      exact ⟨by rw [HM.out]; rfl, H3.out, H4.out⟩
theorem rdUint_any (N P k : Nat) (h1 : 1 ≤ k) (h8 : k ≤ 8) (st : Int ⊕ List Nat) (w : World) (h : RdS N P st w) :
    Calls Tryd.prog 165 #[.pointer (some ⟨P, 0, none⟩), .int .i64 k] w (RdIs N P (rdF (uintR k) 0 st).2 (.int .u64 ((rdF (uintR k) 0 st).1 : Nat)) w) := by
  cases st with
  | inl f => exact uint_bad N P k h1 h8 f w h
  | inr l =>
    by_cases hn : l.length < k
    · have e : rdF (uintR k) 0 (.inr l : Int ⊕ List Nat) = (0, .inl 3) := by simp [rdF, uintR, hn]
      rw [e]
      exact uint_short N P k h1 h8 l w h hn
    · have e : rdF (uintR k) 0 (.inr l : Int ⊕ List Nat) = (beV (l.take k), .inr (l.drop k)) := by simp [rdF, uintR, hn]
      rw [e]
      exact uint_some N P k h1 h8 l w h (by omega)
theorem i64_wrap_half {n : Nat} (h : n < 18446744073709551616) : IntKind.i64.wrap ((n / 2 : Nat) : Int) = ((n / 2 : Nat) : Int) := IntWalk.i64_in _ (by omega)
theorem rd_lt (k : Nat) (h8 : k ≤ 8) (N P : Nat) (st : Int ⊕ List Nat) (w : World) (h : RdS N P st w) : (rdF (uintR k) 0 st).1 < 256 ^ k := by
  cases st with
  | inl f => exact Nat.pow_pos (by omega)
  | inr l =>
    unfold rdF
    dsimp only
    split
    · exact Nat.pow_pos (by omega)
    · rename_i x l' he
      exact (uintR_of h.1 he).2
/-- A reading of a signed number. -/
def intR (l : List Nat) : Rd Int := match uintR 8 l with
  | .bad f => .bad f
  | .ok n l => .ok (zag n) l
theorem rd_int (st : Int ⊕ List Nat) : rdF intR 0 st = (zag (rdF (uintR 8) 0 st).1, (rdF (uintR 8) 0 st).2) := by
  cases st with
  | inl f => simp [rdF, zag]
  | inr l =>
    unfold rdF intR
    dsimp only
    cases uintR 8 l <;> simp [zag]
theorem zag_bits {n : Nat} (h : n < 18446744073709551616) : bits .xor .i64 ((n : Int) / 2) (wrap64 (-wrap64 (bits .and .u64 (n : Int) 1))) = zag n := by
  have h1 : bits .and .u64 (n : Int) 1 = ((n % 2 : Nat) : Int) := by
    rw [show (1 : Int) = ((1 : Nat) : Int) from rfl, u64_and_nat n 1 h (by decide), Nat.and_one_is_mod]
  rw [h1]
  have hn : n % 2 = 0 ∨ n % 2 = 1 := by omega
  unfold zag
  rcases hn with e | e
  · rw [e, if_pos rfl]
    rw [show wrap64 (-wrap64 ((0 : Nat) : Int)) = 0 by decide +kernel]
    rw [Bits.xor_zero _ (by omega) (by omega)]
    omega
  · rw [e, if_neg (by decide)]
    rw [show wrap64 (-wrap64 ((1 : Nat) : Int)) = -1 by decide +kernel]
    rw [Bits.xor_ones _ (by omega) (by omega)]
    omega
set_option maxRecDepth 20000 in
theorem rdInt_any (N P : Nat) (st : Int ⊕ List Nat) (w : World) (h : RdS N P st w) :
    Calls Tryd.prog 167 #[.pointer (some ⟨P, 0, none⟩)] w (RdIs N P (rdF intR 0 st).2 (.int .i64 (rdF intR 0 st).1) w) := by
  have HU := Lib.hid (rdUint_any N P 8 (by omega) (by omega) st w h)
  have hlt := rd_lt 8 (by omega) N P st w h
  rw [pow8] at hlt
  rw [rd_int]
  generalize rdF (uintR 8) 0 st = r at HU hlt
  obtain ⟨n, st'⟩ := r
  dsimp only at *
  have HZ := Lib.hid (zag_bits hlt)
  clear h
  go_enter Tryd.func167, Tryd.ntmps167
  go_wp2_with fail
  refine HU.out.mono ?_
  rintro e w1 ⟨rfl, h2, h3⟩
  have H2 := Lib.hid h2
  have H3 := Lib.hid h3
  clear h2 h3
  go_wp2_with fail
  go_ret
  exact ⟨by rw [← HZ.out]; rfl, H2.out, H3.out⟩
end Go.Proofs.YtmkcooamgojbpaaDoor.Octets

/- octets.Reader: Num. -/
namespace Go.Proofs.YtmkcooamgojbpaaDoor.Octets
open Go.RowKit Go.Proofs.YtmkcooamgojbpaaDoor.Kit Go.Proofs.YtmkcooamgojbpaaDoor.Blk Go.Proofs.YtmkcooamgojbpaaDoor.Cmds
attribute [local go_sem ↓] Go.wp_at_zero Go.wp_at_succ
set_option linter.unusedVariables false

theorem bad_any (N P : Nat) (l : List Nat) (w : World) (h : RdS N P (.inr l) w) :
    Calls Tryd.prog 204 #[.pointer (some ⟨P, 0, none⟩)] w (RdIs N P (.inl 4) (.int .u64 0) w) := by
  obtain ⟨hby, v, hb, hat⟩ := h
  obtain ⟨a, c, rfl, h1, h2⟩ := hat.len
  have c1 : w.cell? ⟨P, 1, none⟩ = some (.int .i64 0) := hb.cell 1 rfl
  have f1 := hb.free 1
  have HE := Lib.hid (show RdS N P (.inl 4) (w.setCell ⟨P, 1, none⟩ (.int .i64 4)) from ⟨by decide, a, l.length, c, hb.set 1 _⟩)
  clear hb hat h2 hby
  go_enter Tryd.func204, Tryd.ntmps204
  go_wp2_with fail
  go_ret
  exact ⟨rfl, HE.out, (Chg.refl _ _ _).setCell _ _ (.inl rfl)⟩
theorem atB_one {N M b : Nat} {v : Value} {w : World} (h : AtB N M [b] v w) : ∃ g o c, v = .slice (some ⟨g, o, none⟩) 1 c ∧ w.cell? ⟨g, o, none⟩ = some (.int .u8 (b : Int)) := by
  rcases h with ⟨h, _⟩ | ⟨g, o, c, rfl, -, -, -, -, hc⟩
  · cases h
  · exact ⟨g, o, c, rfl, hc 0 (by simp)⟩
set_option maxRecDepth 20000 in
theorem num_bad (N P : Nat) (f : Int) (w : World) (h : RdS N P (.inl f) w) :
    Calls Tryd.prog 166 #[.pointer (some ⟨P, 0, none⟩)] w (RdIs N P (.inl f) (.int .u64 0) w) := by
  have HT := Lib.hid (take_bad N P f 1 w h)
  have H := Lib.hid h
  clear h
  go_enter Tryd.func166, Tryd.ntmps166
  go_wp2_with fail
  go_step3
  go_wp2_with fail
  go_step3
  go_wp2_with fail
  go_loopw [2, 4] (fun n i wr => n = .int .u64 0 ∧ i = .int .i64 0 ∧ wr = w) (fun _ i _ => 0)
  case atStart => exact ⟨rfl, rfl, rfl⟩
  case round =>
    obtain ⟨rfl, rfl, rfl⟩ := hrel
    go_wp2_with fail
    refine HT.out.mono ?_
    rintro e w1 ⟨rfl, rfl⟩
    go_wp2_with fail
    go_ret
    exact ⟨rfl, H.out, Chg.refl _ _ _⟩
theorem grp_lt {j c : Nat} (hj : j ≤ 9) (hc : c < 128) (h9 : j = 9 → c ≤ 1) : c * 128 ^ j < 18446744073709551616 := by
  rcases ten j hj with rfl | rfl | rfl | rfl | rfl | rfl | rfl | rfl | rfl | rfl
  all_goals first | omega | (have := h9 rfl; omega)
theorem or_grp {j m c : Nat} (hj : j ≤ 9) (hc : c < 128) (h9 : j = 9 → c ≤ 1) (hm : m < 128 ^ j) : bits .or .u64 (m : Int) (IntKind.u64.wrap ((c : Int) * 2 ^ (7 * j))) = ((m + c * 128 ^ j : Nat) : Int) := by
  have hp : (2 : Nat) ^ (7 * j) = 128 ^ j := by rw [Nat.pow_mul]
  have hl := grp_lt hj hc h9
  have h1 : 128 ^ j < 18446744073709551616 := by rcases ten j hj with rfl | rfl | rfl | rfl | rfl | rfl | rfl | rfl | rfl | rfl <;> decide
  have e : (c : Int) * 2 ^ (7 * j) = ((c * 128 ^ j : Nat) : Int) := by rw [← hp]; simp
  rw [e, IntWalk.u64_in _ (by omega), u64_or_nat _ _ (by omega) hl, Nat.or_comm, nat_join (7 * j) _ _ (by rw [hp]; exact Nat.mul_mod_left _ _) (by rw [hp]; exact hm), Nat.add_comm]
theorem grp_next {j m c : Nat} (hc : c < 128) (hm : m < 128 ^ j) : m + c * 128 ^ j < 128 ^ (j + 1) := by
  rw [Nat.pow_succ]
  have : c * 128 ^ j ≤ 127 * 128 ^ j := Nat.mul_le_mul_right _ (by omega)
  omega
theorem andNot128 (b : Nat) (hb : b < 256) : bits .andNot .u8 (b : Int) 128 = ((b % 128 : Nat) : Int) := by
  have key : ∀ b : Fin 256, bits .andNot .u8 ((b.val : Nat) : Int) 128 = ((b.val % 128 : Nat) : Int) := by decide +kernel
  exact key ⟨b, hb⟩
set_option maxRecDepth 20000 in
set_option maxHeartbeats 1000000 in
theorem num_good (N P : Nat) (l0 : List Nat) (w : World) (h : RdS N P (.inr l0) w) :
    Calls Tryd.prog 166 #[.pointer (some ⟨P, 0, none⟩)] w (RdIs N P (rdF (numR 0 0) 0 (.inr l0)).2 (.int .u64 ((rdF (numR 0 0) 0 (.inr l0)).1 : Nat)) w) := by
  have H := Lib.hid h
  clear h
  go_enter Tryd.func166, Tryd.ntmps166
  go_wp2_with fail
  go_step3
  go_wp2_with fail
  go_step3
  go_wp2_with fail
  go_loopw [2, 4] (fun n i wr => ∃ j m : Nat, ∃ l, j ≤ 10 ∧ i = .int .i64 j ∧ n = .int .u64 m ∧ RdS N P (.inr l) wr ∧ Chg w.heap.size P w wr ∧ numR 0 0 l0 = numR j m l ∧ m < 128 ^ j) (fun _ i _ => 10 - (intOf i).toNat)
  case atStart => exact ⟨0, 0, l0, by omega, rfl, rfl, H.out, Chg.refl _ _ _, rfl, by decide⟩
  case round =>
    clear H
    obtain ⟨j, m, l, hj, rfl, rfl, hr, hc, he, hm⟩ := hrel
    have H := Lib.hid hr
    have HC := Lib.hid hc
    have HE := Lib.hid he
    have HM := Lib.hid hm
    clear hr hc he hm
    by_cases h10 : j = 10
    · subst h10
      have HE2 := Lib.hid (show rdF (numR 0 0) 0 (.inr l0 : Int ⊕ List Nat) = (0, .inl 4) by unfold rdF; dsimp only; rw [HE.out]; cases l <;> simp [numR])
      have H2 := Lib.hid H.out
      have HC2 := Lib.hid HC.out
      obtain ⟨w1, hw1⟩ : ∃ w1, w1 = wr := ⟨_, rfl⟩
      subst hw1
      clear H HC
      go_wp2_with fail
      refine (bad_any N P l w1 H2.out).mono ?_
      rintro e w2 ⟨rfl, h2, h3⟩
      have H3 := Lib.hid h2
      have HC3 := Lib.hid (HC2.out.trans (h3.mono HC2.out.size))
      clear h2 h3
      go_wp2_with fail
      try rw [Exit.noGoto_ret]
      go_ret
      rw [HE2.out]
      exact ⟨rfl, H3.out, HC3.out⟩
    · cases l with
      | nil =>
        have HT := Lib.hid (take_short N P 1 [] wr H.out (by simp))
        have HE2 := Lib.hid (show rdF (numR 0 0) 0 (.inr l0 : Int ⊕ List Nat) = (0, .inl 3) by unfold rdF; dsimp only; rw [HE.out, numR, if_neg (by omega)])
        go_wp2_with fail
        refine HT.out.mono ?_
        rintro e w1 ⟨rfl, h2, h3⟩
        have H3 := Lib.hid h2
        have HC3 := Lib.hid (HC.out.trans (h3.mono HC.out.size))
        clear h2 h3 H HC HT
        go_wp2_with fail
        try rw [Exit.noGoto_ret]
        go_ret
        rw [HE2.out]
        exact ⟨rfl, H3.out, HC3.out⟩
      | cons b l =>
        have hb : b < 256 := H.out.1 b List.mem_cons_self
        have HT := Lib.hid (take_some N P 1 (b :: l) wr H.out (by simp))
        have e1 := andNot128 b hb
        obtain ⟨c, hcc⟩ : ∃ c, c = b % 128 := ⟨_, rfl⟩
        rw [← hcc] at e1
        have HCC := Lib.hid hcc
        have hc128 : c < 128 := by omega
        have j0 : (0 : Int) ≤ j := by omega
        have j10 : (j : Int) < 10 := by omega
        by_cases h9 : j = 9
        · have b9 : ((j : Int) == 9) = true := beq_iff_eq.2 (by omega)
          by_cases hc1 : 1 < c
          · have hc1' : 1 < (c : Int) := by omega
            have HE2 := Lib.hid (show rdF (numR 0 0) 0 (.inr l0 : Int ⊕ List Nat) = (0, .inl 4) by unfold rdF; dsimp only; rw [HE.out, numR, if_neg (by omega), if_pos (by omega)])
            clear hcc
            try clear h9
            try clear hcc
            try clear hz0
            try clear hz
            go_wp2_with fail
            refine HT.out.mono ?_
            rintro e w1 ⟨v, rfl, h2, h3, h4⟩
            obtain ⟨g, o, cp, rfl, c1⟩ := atB_one h2
            have H2 := Lib.hid (show RdS N P (.inr l) w1 from h3)
            have HC2 := Lib.hid (HC.out.trans (h4.mono HC.out.size))
            clear h2 h3 h4 H HC HT
            go_wp2_with fail
            refine (bad_any N P l w1 H2.out).mono ?_
            rintro e w2 ⟨rfl, h2, h3⟩
            have H3 := Lib.hid h2
            have HC3 := Lib.hid (HC2.out.trans (h3.mono HC2.out.size))
            clear h2 h3
            go_wp2_with fail
            try rw [Exit.noGoto_ret]
            go_ret
            rw [HE2.out]
            exact ⟨rfl, H3.out, HC3.out⟩
          · have hc1' : ¬ 1 < (c : Int) := by omega
            have HO := Lib.hid (or_grp (by omega) hc128 (by omega) HM.out)
            by_cases hb128 : 128 ≤ b
            · have hb1 : 128 ≤ (b : Int) := by omega
              have HE2 := Lib.hid (show numR 0 0 l0 = numR (j + 1) (m + c * 128 ^ j) l by rw [HE.out, numR, if_neg (by omega), if_neg (by omega), if_neg (by omega), ← HCC.out])
              have HG := Lib.hid (grp_next hc128 HM.out)
              try clear h9
              try clear hcc
              try clear hz0
              try clear hz
              go_wp2_with fail
              refine HT.out.mono ?_
              rintro e w1 ⟨v, rfl, h2, h3, h4⟩
              obtain ⟨g, o, cp, rfl, c1⟩ := atB_one h2
              have H2 := Lib.hid (show RdS N P (.inr l) w1 from h3)
              have HC2 := Lib.hid (HC.out.trans (h4.mono HC.out.size))
              clear h2 h3 h4 H HC HT
              go_wp2_with fail
              go_roundw
              case rel => exact ⟨j + 1, m + c * 128 ^ j, l, by omega, by go_num, by rw [HO.out], H2.out, HC2.out, HE2.out, HG.out⟩
              case measure => simp [intOf]; omega
            · have hb1 : ¬ 128 ≤ (b : Int) := by omega
              by_cases hz : c = 0 ∧ 0 < j
              · obtain ⟨hz0, hj0⟩ := hz
                have z0 : ((c : Int) == 0) = true := beq_iff_eq.2 (by omega)
                have HE2 := Lib.hid (show rdF (numR 0 0) 0 (.inr l0 : Int ⊕ List Nat) = (0, .inl 4) by unfold rdF; dsimp only; rw [HE.out, numR, if_neg (by omega), if_neg (by omega), if_pos (by omega), if_pos (by omega)])
                try clear h9
                try clear hcc
                try clear hz0
                try clear hz
                go_wp2_with fail
                refine HT.out.mono ?_
                rintro e w1 ⟨v, rfl, h2, h3, h4⟩
                obtain ⟨g, o, cp, rfl, c1⟩ := atB_one h2
                have H2 := Lib.hid (show RdS N P (.inr l) w1 from h3)
                have HC2 := Lib.hid (HC.out.trans (h4.mono HC.out.size))
                clear h2 h3 h4 H HC HT
                go_wp2_with fail
                refine (bad_any N P l w1 H2.out).mono ?_
                rintro e w2 ⟨rfl, h2, h3⟩
                have H3 := Lib.hid h2
                have HC3 := Lib.hid (HC2.out.trans (h3.mono HC2.out.size))
                clear h2 h3
                go_wp2_with fail
                try rw [Exit.noGoto_ret]
                go_ret
                rw [HE2.out]
                exact ⟨rfl, H3.out, HC3.out⟩
              · have HE2 := Lib.hid (show rdF (numR 0 0) 0 (.inr l0 : Int ⊕ List Nat) = (m + c * 128 ^ j, .inr l) by unfold rdF; dsimp only; rw [HE.out, numR, if_neg (by omega), if_neg (by omega), if_pos (by omega), if_neg (by omega), ← HCC.out])
                by_cases hz0 : c = 0
                · have z0 : ((c : Int) == 0) = true := beq_iff_eq.2 (by omega)
                  have z1 : ¬ 0 < (j : Int) := by omega
                  try clear h9
                  try clear hcc
                  try clear hz0
                  try clear hz
                  go_wp2_with fail
                  refine HT.out.mono ?_
                  rintro e w1 ⟨v, rfl, h2, h3, h4⟩
                  obtain ⟨g, o, cp, rfl, c1⟩ := atB_one h2
                  have H2 := Lib.hid (show RdS N P (.inr l) w1 from h3)
                  have HC2 := Lib.hid (HC.out.trans (h4.mono HC.out.size))
                  clear h2 h3 h4 H HC HT
                  go_wp2_with fail
                  rw [Exit.noGoto_ret]
                  go_ret
                  rw [HE2.out]
                  exact ⟨by rw [← HO.out]; rfl, H2.out, HC2.out⟩
                · have z0 : ((c : Int) == 0) = false := beq_eq_false_iff_ne.2 (by omega)
                  try clear h9
                  try clear hcc
                  try clear hz0
                  try clear hz
                  go_wp2_with fail
                  refine HT.out.mono ?_
                  rintro e w1 ⟨v, rfl, h2, h3, h4⟩
                  obtain ⟨g, o, cp, rfl, c1⟩ := atB_one h2
                  have H2 := Lib.hid (show RdS N P (.inr l) w1 from h3)
                  have HC2 := Lib.hid (HC.out.trans (h4.mono HC.out.size))
                  clear h2 h3 h4 H HC HT
                  go_wp2_with fail
                  rw [Exit.noGoto_ret]
                  go_ret
                  rw [HE2.out]
                  exact ⟨by rw [← HO.out]; rfl, H2.out, HC2.out⟩
        · have b9 : ((j : Int) == 9) = false := beq_eq_false_iff_ne.2 (by omega)
          have HO := Lib.hid (or_grp (by omega) hc128 (by omega) HM.out)
          by_cases hb128 : 128 ≤ b
          · have hb1 : 128 ≤ (b : Int) := by omega
            have HE2 := Lib.hid (show numR 0 0 l0 = numR (j + 1) (m + c * 128 ^ j) l by rw [HE.out, numR, if_neg (by omega), if_neg (by omega), if_neg (by omega), ← HCC.out])
            have HG := Lib.hid (grp_next hc128 HM.out)
            try clear h9
            try clear hcc
            try clear hz0
            try clear hz
            go_wp2_with fail
            refine HT.out.mono ?_
            rintro e w1 ⟨v, rfl, h2, h3, h4⟩
            obtain ⟨g, o, cp, rfl, c1⟩ := atB_one h2
            have H2 := Lib.hid (show RdS N P (.inr l) w1 from h3)
            have HC2 := Lib.hid (HC.out.trans (h4.mono HC.out.size))
            clear h2 h3 h4 H HC HT
            go_wp2_with fail
            go_roundw
            case rel => exact ⟨j + 1, m + c * 128 ^ j, l, by omega, by go_num, by rw [HO.out], H2.out, HC2.out, HE2.out, HG.out⟩
            case measure => simp [intOf]; omega
          · have hb1 : ¬ 128 ≤ (b : Int) := by omega
            by_cases hz : c = 0 ∧ 0 < j
            · obtain ⟨hz0, hj0⟩ := hz
              have z0 : ((c : Int) == 0) = true := beq_iff_eq.2 (by omega)
              have HE2 := Lib.hid (show rdF (numR 0 0) 0 (.inr l0 : Int ⊕ List Nat) = (0, .inl 4) by unfold rdF; dsimp only; rw [HE.out, numR, if_neg (by omega), if_neg (by omega), if_pos (by omega), if_pos (by omega)])
              try clear h9
              try clear hcc
              try clear hz0
              try clear hz
              go_wp2_with fail
              refine HT.out.mono ?_
              rintro e w1 ⟨v, rfl, h2, h3, h4⟩
              obtain ⟨g, o, cp, rfl, c1⟩ := atB_one h2
              have H2 := Lib.hid (show RdS N P (.inr l) w1 from h3)
              have HC2 := Lib.hid (HC.out.trans (h4.mono HC.out.size))
              clear h2 h3 h4 H HC HT
              go_wp2_with fail
              refine (bad_any N P l w1 H2.out).mono ?_
              rintro e w2 ⟨rfl, h2, h3⟩
              have H3 := Lib.hid h2
              have HC3 := Lib.hid (HC2.out.trans (h3.mono HC2.out.size))
              clear h2 h3
              go_wp2_with fail
              try rw [Exit.noGoto_ret]
              go_ret
              rw [HE2.out]
              exact ⟨rfl, H3.out, HC3.out⟩
            · have HE2 := Lib.hid (show rdF (numR 0 0) 0 (.inr l0 : Int ⊕ List Nat) = (m + c * 128 ^ j, .inr l) by unfold rdF; dsimp only; rw [HE.out, numR, if_neg (by omega), if_neg (by omega), if_pos (by omega), if_neg (by omega), ← HCC.out])
              by_cases hz0 : c = 0
              · have z0 : ((c : Int) == 0) = true := beq_iff_eq.2 (by omega)
                have z1 : ¬ 0 < (j : Int) := by omega
                try clear h9
                try clear hcc
                try clear hz0
                try clear hz
                go_wp2_with fail
                refine HT.out.mono ?_
                rintro e w1 ⟨v, rfl, h2, h3, h4⟩
                obtain ⟨g, o, cp, rfl, c1⟩ := atB_one h2
                have H2 := Lib.hid (show RdS N P (.inr l) w1 from h3)
                have HC2 := Lib.hid (HC.out.trans (h4.mono HC.out.size))
                clear h2 h3 h4 H HC HT
                go_wp2_with fail
                rw [Exit.noGoto_ret]
                go_ret
                rw [HE2.out]
                exact ⟨by rw [← HO.out]; rfl, H2.out, HC2.out⟩
              · have z0 : ((c : Int) == 0) = false := beq_eq_false_iff_ne.2 (by omega)
                try clear h9
                try clear hcc
                try clear hz0
                try clear hz
                go_wp2_with fail
                refine HT.out.mono ?_
                rintro e w1 ⟨v, rfl, h2, h3, h4⟩
                obtain ⟨g, o, cp, rfl, c1⟩ := atB_one h2
                have H2 := Lib.hid (show RdS N P (.inr l) w1 from h3)
                have HC2 := Lib.hid (HC.out.trans (h4.mono HC.out.size))
                clear h2 h3 h4 H HC HT
                go_wp2_with fail
                rw [Exit.noGoto_ret]
                go_ret
                rw [HE2.out]
                exact ⟨by rw [← HO.out]; rfl, H2.out, HC2.out⟩
theorem rdNum_any (N P : Nat) (st : Int ⊕ List Nat) (w : World) (h : RdS N P st w) :
    Calls Tryd.prog 166 #[.pointer (some ⟨P, 0, none⟩)] w (RdIs N P (rdF (numR 0 0) 0 st).2 (.int .u64 ((rdF (numR 0 0) 0 st).1 : Nat)) w) := by
  cases st with
  | inl f => exact num_bad N P f w h
  | inr l => exact num_good N P l w h
end Go.Proofs.YtmkcooamgojbpaaDoor.Octets

/- A reading that fails has a fault: plain. -/
namespace Go.Proofs.YtmkcooamgojbpaaDoor.Cmds
open Go.Proofs.YtmkcooamgojbpaaDoor.Octets
set_option linter.unusedVariables false

theorem num_bad_ne : ∀ (l : List Nat) (i n : Nat) (f : Int), numR i n l = .bad f → f ≠ 0 := by
  intro l
  induction l with
  | nil => intro i n f h; unfold numR at h; split at h <;> (injection h with h; omega)
  | cons b l ih =>
    intro i n f h
    unfold numR at h
    split at h
    · injection h with h; omega
    · split at h
      · injection h with h; omega
      · split at h
        · split at h
          · injection h with h; omega
          · cases h
        · exact ih _ _ _ h
theorem uint_bad_ne (k : Nat) (l : List Nat) (f : Int) (h : uintR k l = .bad f) : f ≠ 0 := by
  unfold uintR at h
  split at h
  · injection h with h; omega
  · cases h
theorem byte_bad_ne (l : List Nat) (f : Int) (h : byteR l = .bad f) : f ≠ 0 := by
  cases l with
  | nil => injection h with h; omega
  | cons b l => cases h
theorem bind_bad {α β : Type} {r : Rd α} {g : α → List Nat → Rd β} {f : Int} (h : Rd.bind r g = .bad f) : r = .bad f ∨ ∃ x l, r = .ok x l ∧ g x l = .bad f := by
  cases r with
  | bad e => injection h with h; exact .inl (by rw [h])
  | ok x l => exact .inr ⟨x, l, rfl, h⟩
theorem pq_bad_ne (l : List Nat) (f : Int) (h : pqR l = .bad f) : f ≠ 0 := by
  unfold pqR at h
  rcases bind_bad h with h | ⟨x, l, -, h⟩
  · exact uint_bad_ne _ _ _ h
  rcases bind_bad h with h | ⟨y, l, -, h⟩
  · exact uint_bad_ne _ _ _ h
  cases h
theorem new_bad_ne (l : List Nat) (f : Int) (h : newR l = .bad f) : f ≠ 0 := by
  unfold newR at h
  rcases bind_bad h with h | ⟨x, l, -, h⟩
  · exact num_bad_ne _ _ _ _ h
  rcases bind_bad h with h | ⟨y, l, -, h⟩
  · exact byte_bad_ne _ _ h
  rcases bind_bad h with h | ⟨y, l, -, h⟩
  · exact byte_bad_ne _ _ h
  rcases bind_bad h with h | ⟨y, l, -, h⟩
  · exact byte_bad_ne _ _ h
  cases h
theorem dec_bad_ne (l : List Nat) (f : Int) (h : decF l = .bad f) : f ≠ 0 := by
  cases l with
  | nil => injection h with h; omega
  | cons k l =>
    unfold decF at h
    dsimp only at h
    split at h
    · injection h with h; omega
    rcases bind_bad h with h | ⟨x, l, -, h⟩
    · exact byte_bad_ne _ _ h
    rcases bind_bad h with h | ⟨y, l, -, h⟩
    · exact num_bad_ne _ _ _ _ h
    rcases bind_bad h with h | ⟨y, l, -, h⟩
    · unfold partN at h
      split at h
      · exact new_bad_ne _ _ h
      · cases h
    rcases bind_bad h with h | ⟨y, l, -, h⟩
    · unfold partP at h
      split at h
      · cases h
      · exact pq_bad_ne _ _ h
    unfold endR at h
    split at h
    · injection h with h; omega
    · cases h
end Go.Proofs.YtmkcooamgojbpaaDoor.Cmds
