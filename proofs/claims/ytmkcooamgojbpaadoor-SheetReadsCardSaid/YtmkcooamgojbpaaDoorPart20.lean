/- Parts of the proof: RefOctI, Cmd, CmdR, CmdR2, CmdE, OctR, DecF, CmdRR, CmdF, Script, Steps, StepsP. -/
import Derived.Test.YtmkcooamgojbpaaDoorPart19
import Derived.Lib.SlBytesRow
import Derived.Lib.BufferRead
import Derived.Deep.RegionHeld3
import Derived.Test.YtmkcooamgojbpaaDoorPart4
import Derived.Deep.QuietTactic

/- damperref03: turned, Int, Same. -/
namespace Go.Proofs.YtmkcooamgojbpaaDoor.Octets
set_option linter.unusedVariables false
open Go.RowKit Go.Proofs.YtmkcooamgojbpaaDoor.Kit Go.Proofs.YtmkcooamgojbpaaDoor.Blk
attribute [local go_sem ↓] Go.wp_at_zero Go.wp_at_succ

theorem turned_any (n : Int) (h0 : -9223372036854775808 ≤ n) (h1 : n ≤ 9223372036854775807) (w : World) :
    Calls Tryd.prog 248 #[.int .i64 n] w fun e w' => e = .returned (.int .u64 (zig n)) ∧ w = w' := by
  by_cases h : 0 ≤ n
  · have hz : (zig n : Int) = 2 * n := by unfold zig; rw [if_pos h]; omega
    go_enter Tryd.func248, Tryd.ntmps248
    go_wp2_with fail
    go_ret
    simp [hz]
  · have hz : (zig n : Int) = -2 * n - 1 := by unfold zig; rw [if_neg h]; omega
    go_enter Tryd.func248, Tryd.ntmps248
    go_wp2_with fail
    go_ret
    simp
    omega

theorem refint_any (n : Int) (h0 : -9223372036854775808 ≤ n) (h1 : n ≤ 9223372036854775807) (w : World) :
    Calls Tryd.prog 243 #[.int .i64 n] w fun e w' => BytesIs (beB 8 (zig n)) w e w' := by
  have HT := Lib.hid (turned_any n h0 h1)
  have HU := Lib.hid (refuint_any (zig n) 8 (by decide) (by decide) (zig_lt n h0 h1))
  go_enter Tryd.func243, Tryd.ntmps243
  go_wp2_with (first | (go_at_call 248; refine (HT.out _).mono ?_; rintro e w1 ⟨rfl, rfl⟩) | (go_at_call 247; refine (HU.out _).mono ?_; rintro e w1 ⟨v, rfl, hv, hb⟩))
  go_ret
  exact ⟨_, rfl, hv, hb⟩

def nums (l : List Nat) : List Int := l.map fun (b : Nat) => (b : Int)
theorem own_string {N : Nat} {l : List Nat} {v : Value} {w : World} (h : Own N l v w) (h0 : 0 < l.length) : (convert 40 9 v).run Tryd.prog w = .ok (.string (strOfNums (nums l))) w := by
  obtain ⟨g, cap, rfl, hg1, hg2⟩ := World.ownsRow.form h h0
  refine run_convert_bytes_arg w 40 5 (by kernel_rfl) (by kernel_rfl) g 0 l.length cap (nums l) (by simp [nums]) (fun i hi => ?_) 9 (by kernel_rfl)
  have := World.ownsRow.cells h rfl i (.int .u8 (l[i] : Int)) (by simp [vals, hi])
  rw [Addr.add_mid] at this
  simpa [nums, List.getD, hi] using this

set_option maxRecDepth 20000 in
theorem same_any (N M : Nat) (l : List Nat) (h0 : 0 < l.length) (v u : Value) (w : World) (hv : Own N l v w) (hu : Own M l u w) :
    Calls Tryd.prog 97 #[v, u] w fun e w' => e = .returned (.bool true) ∧ w = w' := by
  have h1 := own_string hv h0
  have h2 := own_string hu h0
  clear hv hu
  generalize strOfNums (nums l) = s at h1 h2
  go_enter Tryd.func97, Tryd.ntmps97
  go_wp2_with fail
  go_ret
  simp

theorem same_nil (w : World) :
    Calls Tryd.prog 97 #[.slice none 0 0, .slice none 0 0] w fun e w' => e = .returned (.bool true) ∧ w = w' := by
  have h1 : (convert 40 9 (.slice none 0 0)).run Tryd.prog w = .ok (.string ⟨#[]⟩) w := Lib.run_convert_nil_bytes w 40 9 5 0 (by kernel_rfl) (by kernel_rfl) (by kernel_rfl)
  generalize (⟨#[]⟩ : ByteArray) = s at h1
  go_enter Tryd.func97, Tryd.ntmps97
  go_wp2_with fail
  go_ret
  simp
end Go.Proofs.YtmkcooamgojbpaaDoor.Octets

/- Commands: command.Right and the document's. -/
namespace Go.Proofs.YtmkcooamgojbpaaDoor.Cmds
set_option linter.unusedVariables false
open Go.RowKit Go.Proofs.YtmkcooamgojbpaaDoor.Kit Go.Proofs.YtmkcooamgojbpaaDoor.Blk Go.Proofs.YtmkcooamgojbpaaDoor.Octets
attribute [local go_sem ↓] Go.wp_at_zero Go.wp_at_succ

structure Cmd where
  k : Int
  s : Int
  i : Int
  a : Int
  b : Int
  t : Int
  p : Int
  q : Int
  f : Int
def Cmd.cells (c : Cmd) : Array Value := #[.int .i64 c.k, .int .i64 c.s, .int .i64 c.i, .int .i64 c.a, .int .i64 c.b, .int .i64 c.t, .int .i64 c.p, .int .i64 c.q, .int .i64 c.f]
def zeroC : Cmd := ⟨0, 0, 0, 0, 0, 0, 0, 0, 0⟩
def inB (v lo hi : Int) : Bool := decide (lo ≤ v) && decide (v ≤ hi)
theorem inB_yes {v lo hi : Int} (h : inB v lo hi = true) : lo ≤ v ∧ v ≤ hi := by simpa [inB] using h
theorem inB_no {v lo hi : Int} (h : inB v lo hi = false) : v < lo ∨ hi < v := by
  simp [inB] at h
  omega
/-- What the language says of a command. -/
def rightC (c : Cmd) : Bool :=
  if inB c.s 0 255 = false then false
  else if inB c.i 0 4611686018427387904 = false then false
  else if c.k = 1 then
    if inB c.a 0 1073741824 = false then false
    else if inB c.b 0 1 = false then false
    else if inB c.t 1 5 = false then false
    else inB c.f 0 7
  else if c.k = 3 then c.a == 0 && (c.b == 0 && (c.t == 0 && c.f == 0))
  else if c.k = 2 then c.a == 0 && (c.b == 0 && (c.t == 0 && (c.p == 0 && (c.q == 0 && c.f == 0))))
  else false

set_option maxRecDepth 20000 in
theorem in_any (v lo hi : Int) (w : World) : Calls Tryd.prog 205 #[.int .i64 v, .int .i64 lo, .int .i64 hi] w fun e w' => e = .returned (.bool (inB v lo hi)) ∧ w = w' := by
  by_cases h1 : lo ≤ v <;> by_cases h2 : v ≤ hi <;>
  · go_enter Tryd.func205, Tryd.ntmps205
    go_wp2_with fail
    go_ret
    simp [inB, h1, h2]
theorem rin_any (v lo hi : Int) (w : World) : Calls Tryd.prog 210 #[.int .i64 v, .int .i64 lo, .int .i64 hi] w fun e w' => e = .returned (.bool (inB v lo hi)) ∧ w = w' := by
  by_cases h1 : lo ≤ v <;> by_cases h2 : v ≤ hi <;>
  · go_enter Tryd.func210, Tryd.ntmps210
    go_wp2_with fail
    go_ret
    simp [inB, h1, h2]
end Go.Proofs.YtmkcooamgojbpaaDoor.Cmds

/- command.Right. -/
namespace Go.Proofs.YtmkcooamgojbpaaDoor.Cmds
set_option linter.unusedVariables false
open Go.RowKit Go.Proofs.YtmkcooamgojbpaaDoor.Kit Go.Proofs.YtmkcooamgojbpaaDoor.Blk Go.Proofs.YtmkcooamgojbpaaDoor.Octets
attribute [local go_sem ↓] Go.wp_at_zero Go.wp_at_succ

set_option maxRecDepth 20000 in
set_option maxHeartbeats 4000000 in
theorem right_one (c : Cmd) (w : World) (hc : c.k = 1 ∨ inB c.s 0 255 = false ∨ inB c.i 0 4611686018427387904 = false) : Calls Tryd.prog 170 #[.agg c.cells] w fun e w' => e = .returned (.bool (rightC c)) ∧ Below w.heap.size w w' := by
  obtain ⟨k, s, i, a, b, t, p, q, f⟩ := c
  have HB := Lib.hid (show Below w.heap.size w (w.alloc (.cells (Cmd.cells ⟨k, s, i, a, b, t, p, q, f⟩) 164)) from (Below.refl _ _).alloc (Nat.le_refl _) _)
  have HB2 := Lib.hid (show ∀ cs : Array Value, Below w.heap.size w ((w.alloc (.cells (Cmd.cells ⟨k, s, i, a, b, t, p, q, f⟩) 164)).alloc (.cells cs 164)) from fun cs => ((Below.refl _ _).alloc (Nat.le_refl _) _).alloc (by simp) _)
  unfold Cmd.cells at *
  dsimp only at hc
  cases h1 : inB s 0 255 with
  | false =>
    clear hc
    have HS := Lib.hid (show rightC ⟨k, s, i, a, b, t, p, q, f⟩ = false by simp [rightC, h1])
    go_enter Tryd.func170, Tryd.ntmps170
    go_wp2_with (go_at_call 205; refine (in_any _ _ _ _).mono ?_; rintro e w1 ⟨rfl, rfl⟩)
    go_ret
    exact ⟨ret_bool HS.out.symm, HB.out⟩
  | true =>
    cases h2 : inB i 0 4611686018427387904 with
    | false =>
      have HS := Lib.hid (show rightC ⟨k, s, i, a, b, t, p, q, f⟩ = false by simp [rightC, h2])
      clear hc
      rcases inB_no h2 with g2 | g2
      · clear h2
        go_enter Tryd.func170, Tryd.ntmps170
        go_wp2_with (go_at_call 205; refine (in_any _ _ _ _).mono ?_; rintro e w1 ⟨rfl, rfl⟩)
        go_ret
        exact ⟨ret_bool HS.out.symm, HB.out⟩
      · have g3 : ¬ i < 0 := by omega
        clear h2
        go_enter Tryd.func170, Tryd.ntmps170
        go_wp2_with (go_at_call 205; refine (in_any _ _ _ _).mono ?_; rintro e w1 ⟨rfl, rfl⟩)
        go_ret
        exact ⟨ret_bool HS.out.symm, HB.out⟩
    | true =>
      obtain ⟨g2, g3⟩ := inB_yes h2
      · obtain rfl : k = 1 := by simpa [h1, h2] using hc
        clear hc
        cases h3 : inB a 0 1073741824 with
        | false =>
          have HS := Lib.hid (show rightC ⟨1, s, i, a, b, t, p, q, f⟩ = false by simp [rightC, h1, h2, h3])
          clear h2
          go_enter Tryd.func170, Tryd.ntmps170
          go_wp2_with (go_at_call 205; refine (in_any _ _ _ _).mono ?_; rintro e w1 ⟨rfl, rfl⟩)
          go_ret
          exact ⟨ret_bool HS.out.symm, HB2.out _⟩
        | true =>
          cases h4 : inB b 0 1 with
          | false =>
            have HS := Lib.hid (show rightC ⟨1, s, i, a, b, t, p, q, f⟩ = false by simp [rightC, h1, h2, h3, h4])
            clear h2
            go_enter Tryd.func170, Tryd.ntmps170
            go_wp2_with (go_at_call 205; refine (in_any _ _ _ _).mono ?_; rintro e w1 ⟨rfl, rfl⟩)
            go_ret
            exact ⟨ret_bool HS.out.symm, HB2.out _⟩
          | true =>
            cases h5 : inB t 1 5 with
            | false =>
              have HS := Lib.hid (show rightC ⟨1, s, i, a, b, t, p, q, f⟩ = false by simp [rightC, h1, h2, h3, h4, h5])
              clear h2
              go_enter Tryd.func170, Tryd.ntmps170
              go_wp2_with (go_at_call 205; refine (in_any _ _ _ _).mono ?_; rintro e w1 ⟨rfl, rfl⟩)
              go_ret
              exact ⟨ret_bool HS.out.symm, HB2.out _⟩
            | true =>
              cases h6 : inB f 0 7 with
              | false =>
                have HS := Lib.hid (show rightC ⟨1, s, i, a, b, t, p, q, f⟩ = false by simp [rightC, h1, h2, h3, h4, h5, h6])
                clear h2
                go_enter Tryd.func170, Tryd.ntmps170
                go_wp2_with (go_at_call 205; refine (in_any _ _ _ _).mono ?_; rintro e w1 ⟨rfl, rfl⟩)
                go_ret
                exact ⟨ret_bool HS.out.symm, HB2.out _⟩
              | true =>
                have HS := Lib.hid (show rightC ⟨1, s, i, a, b, t, p, q, f⟩ = true by simp [rightC, h1, h2, h3, h4, h5, h6])
                clear h2
                go_enter Tryd.func170, Tryd.ntmps170
                go_wp2_with (go_at_call 205; refine (in_any _ _ _ _).mono ?_; rintro e w1 ⟨rfl, rfl⟩)
                go_ret
                exact ⟨ret_bool HS.out.symm, HB2.out _⟩
end Go.Proofs.YtmkcooamgojbpaaDoor.Cmds

/- command.Right: cancels and replacements. -/
namespace Go.Proofs.YtmkcooamgojbpaaDoor.Cmds
set_option linter.unusedVariables false
open Go.RowKit Go.Proofs.YtmkcooamgojbpaaDoor.Kit Go.Proofs.YtmkcooamgojbpaaDoor.Blk Go.Proofs.YtmkcooamgojbpaaDoor.Octets
attribute [local go_sem ↓] Go.wp_at_zero Go.wp_at_succ

set_option maxRecDepth 20000 in
set_option maxHeartbeats 4000000 in
theorem right_any (c : Cmd) (w : World) : Calls Tryd.prog 170 #[.agg c.cells] w fun e w' => e = .returned (.bool (rightC c)) ∧ Below w.heap.size w w' := by
  by_cases hc : c.k = 1 ∨ inB c.s 0 255 = false ∨ inB c.i 0 4611686018427387904 = false
  · exact right_one c w hc
  obtain ⟨k, s, i, a, b, t, p, q, f⟩ := c
  have HB2 := Lib.hid (show ∀ cs : Array Value, Below w.heap.size w ((w.alloc (.cells (Cmd.cells ⟨k, s, i, a, b, t, p, q, f⟩) 164)).alloc (.cells cs 164)) from fun cs => ((Below.refl _ _).alloc (Nat.le_refl _) _).alloc (by simp) _)
  unfold Cmd.cells at *
  dsimp only at hc
  have hk1 : ¬ k = 1 := fun h => hc (.inl h)
  have h1 : inB s 0 255 = true := by
    cases h : inB s 0 255 with
    | true => rfl
    | false => exact absurd (.inr (.inl h)) hc
  have h2 : inB i 0 4611686018427387904 = true := by
    cases h : inB i 0 4611686018427387904 with
    | true => rfl
    | false => exact absurd (.inr (.inr h)) hc
  obtain ⟨g2, g3⟩ := inB_yes h2
  have b1 : (k == 1) = false := by simpa using hk1
  clear hc
  by_cases hk3 : k = 3
  · subst hk3
    have HS := Lib.hid (show rightC ⟨3, s, i, a, b, t, p, q, f⟩ = (a == 0 && (b == 0 && (t == 0 && f == 0))) by simp [rightC, h1, h2])
    clear h2 hk1
    go_enter Tryd.func170, Tryd.ntmps170
    go_wp2_with (go_at_call 205; refine (in_any _ _ _ _).mono ?_; rintro e w1 ⟨rfl, rfl⟩)
    all_goals (subst_vars; go_ret; exact ⟨ret_bool (by rw [HS.out]; try simp [*]), HB2.out _⟩)
  · have b3 : (k == 3) = false := by simpa using hk3
    by_cases hk2 : k = 2
    · subst hk2
      have HS := Lib.hid (show rightC ⟨2, s, i, a, b, t, p, q, f⟩ = (a == 0 && (b == 0 && (t == 0 && (p == 0 && (q == 0 && f == 0))))) by simp [rightC, h1, h2])
      clear h2 hk1 hk3
      go_enter Tryd.func170, Tryd.ntmps170
      go_wp2_with (go_at_call 205; refine (in_any _ _ _ _).mono ?_; rintro e w1 ⟨rfl, rfl⟩)
      all_goals (subst_vars; go_ret; exact ⟨ret_bool (by rw [HS.out]; try simp [*]), HB2.out _⟩)
    · have b2 : (k == 2) = false := by simpa using hk2
      have HS := Lib.hid (show rightC ⟨k, s, i, a, b, t, p, q, f⟩ = false by simp [rightC, h1, h2, hk1, hk2, hk3])
      clear h2 hk1 hk3 hk2
      go_enter Tryd.func170, Tryd.ntmps170
      go_wp2_with (go_at_call 205; refine (in_any _ _ _ _).mono ?_; rintro e w1 ⟨rfl, rfl⟩)
      all_goals (subst_vars; go_ret; exact ⟨ret_bool (by rw [HS.out]; try simp [*]), HB2.out _⟩)
end Go.Proofs.YtmkcooamgojbpaaDoor.Cmds

/- command.Encode. -/
namespace Go.Proofs.YtmkcooamgojbpaaDoor.Cmds
set_option linter.unusedVariables false
open Go.RowKit Go.Proofs.YtmkcooamgojbpaaDoor.Kit Go.Proofs.YtmkcooamgojbpaaDoor.Blk Go.Proofs.YtmkcooamgojbpaaDoor.Octets
attribute [local go_sem ↓] Go.wp_at_zero Go.wp_at_succ

/-- The bytes of a command that is right. -/
def formC (c : Cmd) : List Nat :=
  [c.k.toNat, c.s.toNat] ++ numB c.i.toNat ++ (if c.k = 1 then numB c.a.toNat ++ [c.b.toNat, c.t.toNat, c.f.toNat] else []) ++ (if c.k = 2 then [] else beB 8 (zig c.p) ++ beB 8 (zig c.q))
/-- The bounds that go with rightC. -/
theorem right_in {c : Cmd} (h : rightC c = true) : (c.k = 1 ∨ c.k = 2 ∨ c.k = 3) ∧ (0 ≤ c.s ∧ c.s ≤ 255) ∧ (0 ≤ c.i ∧ c.i ≤ 4611686018427387904) ∧ (c.k = 1 → (0 ≤ c.a ∧ c.a ≤ 1073741824) ∧ (0 ≤ c.b ∧ c.b ≤ 1) ∧ (1 ≤ c.t ∧ c.t ≤ 5) ∧ (0 ≤ c.f ∧ c.f ≤ 7)) := by
  unfold rightC at h
  split at h
  · cases h
  split at h
  · cases h
  rename_i h1 h2
  have h1' := inB_yes (by simpa using h1)
  have h2' := inB_yes (by simpa using h2)
  refine ⟨?_, h1', h2', fun hk => ?_⟩
  · split at h
    · exact .inl (by assumption)
    · split at h
      · exact .inr (.inr (by assumption))
      · split at h
        · exact .inr (.inl (by assumption))
        · cases h
  · rw [if_pos hk] at h
    split at h
    · cases h
    split at h
    · cases h
    split at h
    · cases h
    rename_i h3 h4 h5
    exact ⟨inB_yes (by simpa using h3), inB_yes (by simpa using h4), inB_yes (by simpa using h5), inB_yes h⟩

/-- What an encoder answers: bytes of its own, or a fault. -/
def EncIs (c : Cmd) (w : World) (e : Ending) (w' : World) : Prop :=
  (rightC c = true ∧ ∃ v, e = .returned (.tuple #[v, .int .i64 0]) ∧ Own w.heap.size (formC c) v w' ∧ Below w.heap.size w w') ∨
  (rightC c = false ∧ e = .returned (.tuple #[.slice none 0 0, .int .i64 1]) ∧ Below w.heap.size w w')

theorem ws_alloc {N P : Nat} {l : List Nat} {W : World} (h : WS N P l W) (o : Obj) : WS N P l (W.alloc o) := by
  obtain ⟨v, hv, hrow⟩ := h
  exact ⟨v, hv.old o, hrow.alloc o⟩
theorem own_mono {N M : Nat} {l : List Nat} {v : Value} {W : World} (h : Own M l v W) (hN : N ≤ M) : Own N l v W :=
  ⟨h.1, h.2.imp id fun ⟨g, cap, cur, hv, hb, r⟩ => ⟨g, cap, cur, hv, Nat.le_trans hN hb, r⟩⟩
theorem numG_len (f n : Nat) : (numG f n).length ≤ f + 1 := by
  induction f generalizing n with
  | zero => simp [numG]
  | succ f ih =>
    unfold numG
    split
    · simp
    · have := ih (n / 128)
      simp
      omega
theorem numB_len (n : Nat) : (numB n).length ≤ 11 := numG_len 10 n

set_option maxRecDepth 20000 in
set_option maxHeartbeats 4000000 in
theorem encode_any (c : Cmd) (w : World) (hp0 : -9223372036854775808 ≤ c.p) (hp1 : c.p ≤ 9223372036854775807) (hq0 : -9223372036854775808 ≤ c.q) (hq1 : c.q ≤ 9223372036854775807) :
    Calls Tryd.prog 225 #[.agg c.cells] w (EncIs c w) := by
  have HB := Lib.hid (Blk.new w c.cells 164 w.heap.size rfl)
  have HW := Lib.hid (show Below w.heap.size w (w.alloc (.cells c.cells 164)) from (Below.refl _ _).alloc (Nat.le_refl _) _)
  have HRC := Lib.hid (right_any c)
  cases hr : rightC c with
  | false =>
    have HF := Lib.hid hr
    rw [hr] at HRC
    obtain ⟨k, s, i, a, b, t, p, q, f⟩ := c
    unfold Cmd.cells at *
    clear hr
    go_enter Tryd.func225, Tryd.ntmps225
    go_wp2_with fail
    refine (HRC.out _).mono ?_
    rintro e w1 ⟨rfl, hb1⟩
    go_wp2_with fail
    go_ret2
    exact .inr ⟨HF.out, rfl, HW.out.trans (hb1.mono (by simp))⟩
  | true =>
    have HF := Lib.hid hr
    have hin := right_in hr
    rw [hr] at HRC
    obtain ⟨k, s, i, a, b, t, p, q, f⟩ := c
    dsimp only at hin hp0 hp1 hq0 hq1
    obtain ⟨hk, ⟨hs0, hs1⟩, ⟨hi0, hi1⟩, h1⟩ := hin
    obtain ⟨k, rfl⟩ : ∃ n : Nat, k = n := ⟨k.toNat, by omega⟩
    obtain ⟨s, rfl⟩ : ∃ n : Nat, s = n := ⟨s.toNat, by omega⟩
    obtain ⟨i, rfl⟩ : ∃ n : Nat, i = n := ⟨i.toNat, by omega⟩
    have hkb : IntKind.u8.wrap (k : Int) = (k : Int) := by rw [IntKind.wrap_u8]; omega
    have hsb : IntKind.u8.wrap (s : Int) = (s : Int) := by rw [IntKind.wrap_u8]; omega
    have hib : IntKind.u64.wrap (i : Int) = (i : Int) := by rw [IntKind.wrap_u64]; omega
    unfold Cmd.cells at *
    clear hr
    go_enter Tryd.func225, Tryd.ntmps225
    go_wp2_with fail
    refine (HRC.out _).mono ?_
    rintro e w1 ⟨rfl, hb1⟩
    replace HB := Lib.hid (HB.out.below hb1 HB.out.lt)
    replace HW := Lib.hid (HW.out.trans (hb1.mono (by simp)))
    clear hb1
    have hNP : w.heap.size ≤ w1.heap.size := HW.out.size
    have HWS := Lib.hid (show WS w.heap.size w1.heap.size [] (w1.alloc (.cells #[.slice none 0 0] 273)).drew from ⟨_, (Blk.new w1 #[.slice none 0 0] 273 w1.heap.size rfl), World.ownsRow_nil _ _ _ _⟩)
    go_wp2_with fail
    replace HB := Lib.hid (show Blk (w1.alloc (.cells #[.slice none 0 0] 273)).drew w.heap.size _ 164 from HB.out.old (.cells #[.slice none 0 0] 273))
    replace HW := Lib.hid (show Below w.heap.size w (w1.alloc (.cells #[.slice none 0 0] 273)).drew from (HW.out.alloc hNP (.cells #[.slice none 0 0] 273)).drew)
    refine wp_region_held_drew (S := (fun w' => w'.cell? ⟨w.heap.size, 0, none⟩ = some (.int .i64 k) ∧ w'.cell? ⟨w.heap.size, 1, none⟩ = some (.int .i64 s) ∧ w'.cell? ⟨w.heap.size, 2, none⟩ = some (.int .i64 i))) (by kernel_rfl) ⟨HB.out.cell 0 rfl, HB.out.cell 1 rfl, HB.out.cell 2 rfl⟩ (fun hHeld => ?_)
    generalize hP : w1.heap.size = P at *
    generalize (w1.alloc (.cells #[.slice none 0 0] 273)).drew = wd at HB HW HWS hHeld ⊢
    refine wpAnyH_take (i := 0) (oi := ⟨some 10, _, _, _, _, _⟩) (v := (.pointer (some ⟨P, 0, none⟩))) rfl (by kernel_rfl) (by kernel_rfl) (by kernel_rfl) (fun _ _ _ h => h) (Or.inl ⟨by rfl, fun w hSw => by (try dsimp only at hSw); go_simp⟩) (by assumption) ?_
    simp only [Act.put, List.setIfInBounds_toArray, List.set_cons_zero, List.set_cons_succ]
    refine wpAnyH_take (i := 1) (oi := ⟨some 11, _, _, _, _, _⟩) (v := (.pointer (some ⟨w.heap.size, 0, none⟩))) rfl (by kernel_rfl) (by kernel_rfl) (by kernel_rfl) (fun _ _ _ h => h) (Or.inl ⟨by rfl, fun w hSw => by (try dsimp only at hSw); go_simp⟩) (by assumption) ?_
    simp only [Act.put, List.setIfInBounds_toArray, List.set_cons_zero, List.set_cons_succ]
    refine wpAnyH_take (i := 2) (oi := ⟨some 12, _, _, _, _, _⟩) (v := (.int .i64 k)) rfl (by kernel_rfl) (by kernel_rfl) (by kernel_rfl) (fun _ _ _ h => h) (Or.inl ⟨by rfl, fun w hSw => by (try dsimp only at hSw); go_simp⟩) (by assumption) ?_
    simp only [Act.put, List.setIfInBounds_toArray, List.set_cons_zero, List.set_cons_succ]
    refine wpAnyH_take (i := 3) (oi := ⟨some 13, _, _, _, _, _⟩) (v := (.int .u8 k)) rfl (by kernel_rfl) (by kernel_rfl) (by kernel_rfl) (fun _ _ _ h => h) (Or.inl ⟨by rfl, fun w hSw => by (try dsimp only at hSw); go_simp⟩) (by assumption) ?_
    simp only [Act.put, List.setIfInBounds_toArray, List.set_cons_zero, List.set_cons_succ]
    refine wpAnyH_take (i := 4) (oi := ⟨some 14, _, _, _, _, _⟩) (v := (.pointer (some ⟨w.heap.size, 1, none⟩))) rfl (by kernel_rfl) (by kernel_rfl) (by kernel_rfl) (fun _ _ _ h => h) (Or.inl ⟨by rfl, fun w hSw => by (try dsimp only at hSw); go_simp⟩) (by assumption) ?_
    simp only [Act.put, List.setIfInBounds_toArray, List.set_cons_zero, List.set_cons_succ]
    refine wpAnyH_take (i := 5) (oi := ⟨some 15, _, _, _, _, _⟩) (v := (.int .i64 s)) rfl (by kernel_rfl) (by kernel_rfl) (by kernel_rfl) (fun _ _ _ h => h) (Or.inl ⟨by rfl, fun w hSw => by (try dsimp only at hSw); go_simp⟩) (by assumption) ?_
    simp only [Act.put, List.setIfInBounds_toArray, List.set_cons_zero, List.set_cons_succ]
    refine wpAnyH_take (i := 6) (oi := ⟨some 16, _, _, _, _, _⟩) (v := (.int .u8 s)) rfl (by kernel_rfl) (by kernel_rfl) (by kernel_rfl) (fun _ _ _ h => h) (Or.inl ⟨by rfl, fun w hSw => by (try dsimp only at hSw); go_simp⟩) (by assumption) ?_
    simp only [Act.put, List.setIfInBounds_toArray, List.set_cons_zero, List.set_cons_succ]
    refine wpAnyH_take (i := 9) (oi := ⟨some 19, _, _, _, _, _⟩) (v := (.pointer (some ⟨w.heap.size, 2, none⟩))) rfl (by kernel_rfl) (by kernel_rfl) (by kernel_rfl) (fun _ _ _ h => h) (Or.inl ⟨by rfl, fun w hSw => by (try dsimp only at hSw); go_simp⟩) (by assumption) ?_
    simp only [Act.put, List.setIfInBounds_toArray, List.set_cons_zero, List.set_cons_succ]
    refine wpAnyH_take (i := 10) (oi := ⟨some 20, _, _, _, _, _⟩) (v := (.int .i64 i)) rfl (by kernel_rfl) (by kernel_rfl) (by kernel_rfl) (fun _ _ _ h => h) (Or.inl ⟨by rfl, fun w hSw => by (try dsimp only at hSw); go_simp⟩) (by assumption) ?_
    simp only [Act.put, List.setIfInBounds_toArray, List.set_cons_zero, List.set_cons_succ]
    refine wpAnyH_take (i := 11) (oi := ⟨some 21, _, _, _, _, _⟩) (v := (.int .u64 i)) rfl (by kernel_rfl) (by kernel_rfl) (by kernel_rfl) (fun _ _ _ h => h) (Or.inl ⟨by rfl, fun w hSw => by (try dsimp only at hSw); go_simp⟩) (by assumption) ?_
    simp only [Act.put, List.setIfInBounds_toArray, List.set_cons_zero, List.set_cons_succ]
    refine wpAnyH_ready (rs := [7]) (by kernel_rfl) (by simp) ?_
    refine AllReadyH.cons (o := ⟨some 17, _, _, _, _, _⟩) rfl (fun KK hK => ?_) AllReadyH.nil
    go_simp
    change KK _ (wd.alloc (.cells #[.int .u8 k, .int .u8 s] 5))
    have HNB := Lib.hid (Blk.new wd #[.int .u8 (k : Int), .int .u8 (s : Int)] 5 wd.heap.size rfl)
    replace HB := Lib.hid (HB.out.old (.cells #[.int .u8 (k : Int), .int .u8 (s : Int)] 5))
    replace HW := Lib.hid (HW.out.alloc HW.out.size (.cells #[.int .u8 (k : Int), .int .u8 (s : Int)] 5))
    replace HWS := Lib.hid (ws_alloc HWS.out (.cells #[.int .u8 (k : Int), .int .u8 (s : Int)] 5))
    refine hK.out _ _ ⟨HB.out.cell 0 rfl, HB.out.cell 1 rfl, HB.out.cell 2 rfl⟩ (fun hHeld => ?_)
    clear hK; try clear KK
    try simp only [Act.put, List.setIfInBounds_toArray, List.set_cons_zero, List.set_cons_succ]
    refine wpAnyH_ready (rs := [8]) (by kernel_rfl) (by simp) ?_
    refine AllReadyH.cons (o := ⟨some 18, _, _, _, _, _⟩) rfl (fun KK hK => ?_) AllReadyH.nil
    go_simp
    refine (raw_any w.heap.size P hNP [] [k, s] (by simp) (by simp) (by simp) _ 2 _ HW.out.size HWS.out HNB.out).mono ?_
    rintro e w2 ⟨rfl, hws, hkp⟩
    clear HNB
    replace HB := Lib.hid (hkp.blk _ _ _ HB.out (by decide) (by decide))
    replace HW := Lib.hid (HW.out.trans hkp.bel)
    replace HWS := Lib.hid hws
    clear hws hkp
    go_wp2_with fail
    refine hK.out _ _ ⟨HB.out.cell 0 rfl, HB.out.cell 1 rfl, HB.out.cell 2 rfl⟩ (fun hHeld => ?_)
    clear hK; try clear KK
    try simp only [Act.put, List.setIfInBounds_toArray, List.set_cons_zero, List.set_cons_succ]
    refine wpAnyH_ready (rs := [12]) (by kernel_rfl) (by simp) ?_
    refine AllReadyH.cons (o := ⟨some 22, _, _, _, _, _⟩) rfl (fun KK hK => ?_) AllReadyH.nil
    go_simp
    refine (num_any w.heap.size P hNP _ (by simp) i (by omega) _ HW.out.size HWS.out).mono ?_
    rintro e w3 ⟨rfl, hws, hkp⟩
    replace HB := Lib.hid (hkp.blk _ _ _ HB.out (by decide) (by decide))
    replace HW := Lib.hid (HW.out.trans hkp.bel)
    replace HWS := Lib.hid hws
    clear hws hkp
    go_wp2_with fail
    refine hK.out _ _ ⟨HB.out.cell 0 rfl, HB.out.cell 1 rfl, HB.out.cell 2 rfl⟩ (fun hHeld => ?_)
    clear hK; try clear KK
    try simp only [Act.put, List.setIfInBounds_toArray, List.set_cons_zero, List.set_cons_succ]
    refine wpAnyH_done (by kernel_rfl) ?_ _
    have HL := Lib.hid (show ([] ++ [k, s] ++ numB i).length ≤ 20 by have := numB_len i; simp; omega)
    have HL0 := Lib.hid (show 0 < ([] ++ [k, s] ++ numB i).length by simp)
    have HLE := Lib.hid (show [] ++ [k, s] ++ numB i = [k, s] ++ numB i by simp)
    generalize [] ++ [k, s] ++ numB i = l at HWS HL HL0 HLE
    have c0 : w3.cell? ⟨w.heap.size, 0, none⟩ = some (.int .i64 k) := HB.out.cell 0 rfl
    by_cases hk1 : k = 1
    · subst hk1
      obtain ⟨⟨ha0, ha1⟩, ⟨hb0, hb1⟩, ⟨ht0, ht1⟩, hf0, hf1⟩ := h1 rfl
      obtain ⟨a, rfl⟩ : ∃ n : Nat, a = n := ⟨a.toNat, by omega⟩
      obtain ⟨b, rfl⟩ : ∃ n : Nat, b = n := ⟨b.toNat, by omega⟩
      obtain ⟨t, rfl⟩ : ∃ n : Nat, t = n := ⟨t.toNat, by omega⟩
      obtain ⟨f, rfl⟩ : ∃ n : Nat, f = n := ⟨f.toNat, by omega⟩
      have hab : IntKind.u64.wrap (a : Int) = (a : Int) := by rw [IntKind.wrap_u64]; omega
      have hbb : IntKind.u8.wrap (b : Int) = (b : Int) := by rw [IntKind.wrap_u8]; omega
      have htb : IntKind.u8.wrap (t : Int) = (t : Int) := by rw [IntKind.wrap_u8]; omega
      have hfb : IntKind.u8.wrap (f : Int) = (f : Int) := by rw [IntKind.wrap_u8]; omega
      clear h1 hk
      go_wp2_with fail
      replace HB := Lib.hid (show Blk w3.drew w.heap.size _ 164 from HB.out)
      replace HW := Lib.hid (show Below w.heap.size w w3.drew from HW.out.drew)
      replace HWS := Lib.hid (show WS w.heap.size P l w3.drew from HWS.out)
      refine wp_region_held_drew (S := (fun w' => w'.cell? ⟨w.heap.size, 3, none⟩ = some (.int .i64 a) ∧ w'.cell? ⟨w.heap.size, 4, none⟩ = some (.int .i64 b) ∧ w'.cell? ⟨w.heap.size, 5, none⟩ = some (.int .i64 t) ∧ w'.cell? ⟨w.heap.size, 8, none⟩ = some (.int .i64 f))) (by kernel_rfl) ⟨HB.out.cell 3 rfl, HB.out.cell 4 rfl, HB.out.cell 5 rfl, HB.out.cell 8 rfl⟩ (fun hHeld => ?_)
      clear c0
      generalize w3.drew = wd at HB HW HWS hHeld ⊢
      refine wpAnyH_take (i := 0) (oi := ⟨some 26, _, _, _, _, _⟩) (v := (.pointer (some ⟨P, 0, none⟩))) rfl (by kernel_rfl) (by kernel_rfl) (by kernel_rfl) (fun _ _ _ h => h) (Or.inl ⟨by rfl, fun w hSw => by (try dsimp only at hSw); go_simp⟩) (by assumption) ?_
      simp only [Act.put, List.setIfInBounds_toArray, List.set_cons_zero, List.set_cons_succ]
      refine wpAnyH_take (i := 1) (oi := ⟨some 27, _, _, _, _, _⟩) (v := (.pointer (some ⟨w.heap.size, 3, none⟩))) rfl (by kernel_rfl) (by kernel_rfl) (by kernel_rfl) (fun _ _ _ h => h) (Or.inl ⟨by rfl, fun w hSw => by (try dsimp only at hSw); go_simp⟩) (by assumption) ?_
      simp only [Act.put, List.setIfInBounds_toArray, List.set_cons_zero, List.set_cons_succ]
      refine wpAnyH_take (i := 2) (oi := ⟨some 28, _, _, _, _, _⟩) (v := (.int .i64 a)) rfl (by kernel_rfl) (by kernel_rfl) (by kernel_rfl) (fun _ _ _ h => h) (Or.inl ⟨by rfl, fun w hSw => by (try dsimp only at hSw); go_simp⟩) (by assumption) ?_
      simp only [Act.put, List.setIfInBounds_toArray, List.set_cons_zero, List.set_cons_succ]
      refine wpAnyH_take (i := 3) (oi := ⟨some 29, _, _, _, _, _⟩) (v := (.int .u64 a)) rfl (by kernel_rfl) (by kernel_rfl) (by kernel_rfl) (fun _ _ _ h => h) (Or.inl ⟨by rfl, fun w hSw => by (try dsimp only at hSw); go_simp⟩) (by assumption) ?_
      simp only [Act.put, List.setIfInBounds_toArray, List.set_cons_zero, List.set_cons_succ]
      refine wpAnyH_take (i := 5) (oi := ⟨some 31, _, _, _, _, _⟩) (v := (.pointer (some ⟨w.heap.size, 4, none⟩))) rfl (by kernel_rfl) (by kernel_rfl) (by kernel_rfl) (fun _ _ _ h => h) (Or.inl ⟨by rfl, fun w hSw => by (try dsimp only at hSw); go_simp⟩) (by assumption) ?_
      simp only [Act.put, List.setIfInBounds_toArray, List.set_cons_zero, List.set_cons_succ]
      refine wpAnyH_take (i := 6) (oi := ⟨some 32, _, _, _, _, _⟩) (v := (.int .i64 b)) rfl (by kernel_rfl) (by kernel_rfl) (by kernel_rfl) (fun _ _ _ h => h) (Or.inl ⟨by rfl, fun w hSw => by (try dsimp only at hSw); go_simp⟩) (by assumption) ?_
      simp only [Act.put, List.setIfInBounds_toArray, List.set_cons_zero, List.set_cons_succ]
      refine wpAnyH_take (i := 7) (oi := ⟨some 33, _, _, _, _, _⟩) (v := (.int .u8 b)) rfl (by kernel_rfl) (by kernel_rfl) (by kernel_rfl) (fun _ _ _ h => h) (Or.inl ⟨by rfl, fun w hSw => by (try dsimp only at hSw); go_simp⟩) (by assumption) ?_
      simp only [Act.put, List.setIfInBounds_toArray, List.set_cons_zero, List.set_cons_succ]
      refine wpAnyH_take (i := 8) (oi := ⟨some 34, _, _, _, _, _⟩) (v := (.pointer (some ⟨w.heap.size, 5, none⟩))) rfl (by kernel_rfl) (by kernel_rfl) (by kernel_rfl) (fun _ _ _ h => h) (Or.inl ⟨by rfl, fun w hSw => by (try dsimp only at hSw); go_simp⟩) (by assumption) ?_
      simp only [Act.put, List.setIfInBounds_toArray, List.set_cons_zero, List.set_cons_succ]
      refine wpAnyH_take (i := 9) (oi := ⟨some 35, _, _, _, _, _⟩) (v := (.int .i64 t)) rfl (by kernel_rfl) (by kernel_rfl) (by kernel_rfl) (fun _ _ _ h => h) (Or.inl ⟨by rfl, fun w hSw => by (try dsimp only at hSw); go_simp⟩) (by assumption) ?_
      simp only [Act.put, List.setIfInBounds_toArray, List.set_cons_zero, List.set_cons_succ]
      refine wpAnyH_take (i := 10) (oi := ⟨some 36, _, _, _, _, _⟩) (v := (.int .u8 t)) rfl (by kernel_rfl) (by kernel_rfl) (by kernel_rfl) (fun _ _ _ h => h) (Or.inl ⟨by rfl, fun w hSw => by (try dsimp only at hSw); go_simp⟩) (by assumption) ?_
      simp only [Act.put, List.setIfInBounds_toArray, List.set_cons_zero, List.set_cons_succ]
      refine wpAnyH_take (i := 11) (oi := ⟨some 37, _, _, _, _, _⟩) (v := (.pointer (some ⟨w.heap.size, 8, none⟩))) rfl (by kernel_rfl) (by kernel_rfl) (by kernel_rfl) (fun _ _ _ h => h) (Or.inl ⟨by rfl, fun w hSw => by (try dsimp only at hSw); go_simp⟩) (by assumption) ?_
      simp only [Act.put, List.setIfInBounds_toArray, List.set_cons_zero, List.set_cons_succ]
      refine wpAnyH_take (i := 12) (oi := ⟨some 38, _, _, _, _, _⟩) (v := (.int .i64 f)) rfl (by kernel_rfl) (by kernel_rfl) (by kernel_rfl) (fun _ _ _ h => h) (Or.inl ⟨by rfl, fun w hSw => by (try dsimp only at hSw); go_simp⟩) (by assumption) ?_
      simp only [Act.put, List.setIfInBounds_toArray, List.set_cons_zero, List.set_cons_succ]
      refine wpAnyH_take (i := 13) (oi := ⟨some 39, _, _, _, _, _⟩) (v := (.int .u8 f)) rfl (by kernel_rfl) (by kernel_rfl) (by kernel_rfl) (fun _ _ _ h => h) (Or.inl ⟨by rfl, fun w hSw => by (try dsimp only at hSw); go_simp⟩) (by assumption) ?_
      simp only [Act.put, List.setIfInBounds_toArray, List.set_cons_zero, List.set_cons_succ]
      refine wpAnyH_ready (rs := [4, 14]) (by kernel_rfl) (by simp) ?_
      refine AllReadyH.cons (o := ⟨some 30, _, _, _, _, _⟩) rfl (fun KK hK => ?_) (AllReadyH.cons (o := ⟨some 40, _, _, _, _, _⟩) rfl (fun KK hK => ?_) AllReadyH.nil)
      ·
        go_simp
        refine (num_any w.heap.size P hNP l (by have := HL.out; omega) a (by omega) _ HW.out.size HWS.out).mono ?_
        rintro e w4 ⟨rfl, hws, hkp⟩
        replace HB := Lib.hid (hkp.blk _ _ _ HB.out (by decide) (by decide))
        replace HW := Lib.hid (HW.out.trans hkp.bel)
        replace HWS := Lib.hid hws
        clear hws hkp
        go_wp2_with fail
        refine hK.out _ _ ⟨HB.out.cell 3 rfl, HB.out.cell 4 rfl, HB.out.cell 5 rfl, HB.out.cell 8 rfl⟩ (fun hHeld => ?_)
        clear hK; try clear KK
        try simp only [Act.put, List.setIfInBounds_toArray, List.set_cons_zero, List.set_cons_succ]
        refine wpAnyH_ready (rs := [14]) (by kernel_rfl) (by simp) ?_
        refine AllReadyH.cons (o := ⟨some 40, _, _, _, _, _⟩) rfl (fun KK hK => ?_) AllReadyH.nil
        go_simp
        change KK _ (World.alloc w4 (.cells #[.int .u8 (b : Int), .int .u8 (t : Int), .int .u8 (f : Int)] 5))
        have HNB := Lib.hid (Blk.new w4 #[.int .u8 (b : Int), .int .u8 (t : Int), .int .u8 (f : Int)] 5 (World.heap w4).size rfl)
        have HNR := Lib.hid (nr_new HWS.out (.cells #[.int .u8 (b : Int), .int .u8 (t : Int), .int .u8 (f : Int)] 5))
        replace HB := Lib.hid (HB.out.old (.cells #[.int .u8 (b : Int), .int .u8 (t : Int), .int .u8 (f : Int)] 5))
        replace HW := Lib.hid (HW.out.alloc HW.out.size (.cells #[.int .u8 (b : Int), .int .u8 (t : Int), .int .u8 (f : Int)] 5))
        replace HWS := Lib.hid (ws_alloc HWS.out (.cells #[.int .u8 (b : Int), .int .u8 (t : Int), .int .u8 (f : Int)] 5))
        refine hK.out _ _ ⟨HB.out.cell 3 rfl, HB.out.cell 4 rfl, HB.out.cell 5 rfl, HB.out.cell 8 rfl⟩ (fun hHeld => ?_)
        clear hK; try clear KK
        try simp only [Act.put, List.setIfInBounds_toArray, List.set_cons_zero, List.set_cons_succ]
        refine wpAnyH_ready (rs := [15]) (by kernel_rfl) (by simp) ?_
        refine AllReadyH.cons (o := ⟨some 41, _, _, _, _, _⟩) rfl (fun KK hK => ?_) AllReadyH.nil
        go_simp
        refine (raw_any w.heap.size P hNP _ [b, t, f] (by have := HL.out; have := numB_len a; rw [List.length_append]; omega) (by simp) (by simp) _ 3 _ HW.out.size HWS.out HNB.out).mono ?_
        rintro e w7 ⟨rfl, hws, hkp⟩
        clear HNB HNR
        replace HB := Lib.hid (hkp.blk _ _ _ HB.out (by decide) (by decide))
        replace HW := Lib.hid (HW.out.trans hkp.bel)
        replace HWS := Lib.hid hws
        clear hws hkp
        go_wp2_with fail
        refine hK.out _ _ ⟨HB.out.cell 3 rfl, HB.out.cell 4 rfl, HB.out.cell 5 rfl, HB.out.cell 8 rfl⟩ (fun hHeld => ?_)
        clear hK; try clear KK
        try simp only [Act.put, List.setIfInBounds_toArray, List.set_cons_zero, List.set_cons_succ]
        refine wpAnyH_done (by kernel_rfl) ?_ _
        have HL2 := Lib.hid (show (l ++ numB a ++ [b, t, f]).length ≤ 40 by have := HL.out; have := numB_len a; rw [List.length_append, List.length_append]; simp; omega)
        have HL20 := Lib.hid (show 0 < (l ++ numB a ++ [b, t, f]).length by simp; omega)
        have HLE2 := Lib.hid (show l ++ numB a ++ [b, t, f] = [1, s] ++ numB i ++ numB a ++ [b, t, f] by rw [HLE.out])
        clear HL HL0 HLE
        generalize l ++ numB a ++ [b, t, f] = l at HWS HL2 HL20 HLE2
        have HL := HL2
        have HL0 := HL20
        clear HL2 HL20
        have HF1 := Lib.hid (show formC ⟨((1 : Nat) : Int), s, i, a, b, t, p, q, f⟩ = l ++ beB 8 (zig p) ++ beB 8 (zig q) by rw [HLE2.out]; simp [formC])
        have c0 : w7.cell? ⟨w.heap.size, 0, none⟩ = some (.int .i64 ((1 : Nat) : Int)) := HB.out.cell 0 rfl
        go_wp2_with fail
        replace HB := Lib.hid (show Blk w7.drew w.heap.size _ 164 from HB.out)
        replace HW := Lib.hid (show Below w.heap.size w w7.drew from HW.out.drew)
        replace HWS := Lib.hid (show WS w.heap.size P l w7.drew from HWS.out)
        refine wp_region_held_drew (S := (fun w' => w'.cell? ⟨w.heap.size, 6, none⟩ = some (.int .i64 p) ∧ w'.cell? ⟨w.heap.size, 7, none⟩ = some (.int .i64 q))) (by kernel_rfl) ⟨HB.out.cell 6 rfl, HB.out.cell 7 rfl⟩ (fun hHeld => ?_)
        generalize w7.drew = wd at HB HW HWS hHeld ⊢
        refine wpAnyH_take (i := 0) (oi := ⟨some 45, _, _, _, _, _⟩) (v := (.pointer (some ⟨P, 0, none⟩))) rfl (by kernel_rfl) (by kernel_rfl) (by kernel_rfl) (fun _ _ _ h => h) (Or.inl ⟨by rfl, fun w hSw => by (try dsimp only at hSw); go_simp⟩) (by assumption) ?_
        simp only [Act.put, List.setIfInBounds_toArray, List.set_cons_zero, List.set_cons_succ]
        refine wpAnyH_take (i := 1) (oi := ⟨some 46, _, _, _, _, _⟩) (v := (.pointer (some ⟨w.heap.size, 6, none⟩))) rfl (by kernel_rfl) (by kernel_rfl) (by kernel_rfl) (fun _ _ _ h => h) (Or.inl ⟨by rfl, fun w hSw => by (try dsimp only at hSw); go_simp⟩) (by assumption) ?_
        simp only [Act.put, List.setIfInBounds_toArray, List.set_cons_zero, List.set_cons_succ]
        refine wpAnyH_take (i := 2) (oi := ⟨some 47, _, _, _, _, _⟩) (v := (.int .i64 p)) rfl (by kernel_rfl) (by kernel_rfl) (by kernel_rfl) (fun _ _ _ h => h) (Or.inl ⟨by rfl, fun w hSw => by (try dsimp only at hSw); go_simp⟩) (by assumption) ?_
        simp only [Act.put, List.setIfInBounds_toArray, List.set_cons_zero, List.set_cons_succ]
        refine wpAnyH_take (i := 4) (oi := ⟨some 49, _, _, _, _, _⟩) (v := (.pointer (some ⟨w.heap.size, 7, none⟩))) rfl (by kernel_rfl) (by kernel_rfl) (by kernel_rfl) (fun _ _ _ h => h) (Or.inl ⟨by rfl, fun w hSw => by (try dsimp only at hSw); go_simp⟩) (by assumption) ?_
        simp only [Act.put, List.setIfInBounds_toArray, List.set_cons_zero, List.set_cons_succ]
        refine wpAnyH_take (i := 5) (oi := ⟨some 50, _, _, _, _, _⟩) (v := (.int .i64 q)) rfl (by kernel_rfl) (by kernel_rfl) (by kernel_rfl) (fun _ _ _ h => h) (Or.inl ⟨by rfl, fun w hSw => by (try dsimp only at hSw); go_simp⟩) (by assumption) ?_
        simp only [Act.put, List.setIfInBounds_toArray, List.set_cons_zero, List.set_cons_succ]
        refine wpAnyH_ready (rs := [3]) (by kernel_rfl) (by simp) ?_
        refine AllReadyH.cons (o := ⟨some 48, _, _, _, _, _⟩) rfl (fun KK hK => ?_) AllReadyH.nil
        go_simp
        refine (int_any w.heap.size P hNP l (by have := HL.out; omega) p hp0 hp1 _ HW.out.size HWS.out).mono ?_
        rintro e w5 ⟨rfl, hws, hkp⟩
        replace HB := Lib.hid (hkp.blk _ _ _ HB.out (by decide) (by decide))
        replace HW := Lib.hid (HW.out.trans hkp.bel)
        replace HWS := Lib.hid hws
        clear hws hkp
        go_wp2_with fail
        refine hK.out _ _ ⟨HB.out.cell 6 rfl, HB.out.cell 7 rfl⟩ (fun hHeld => ?_)
        clear hK; try clear KK
        try simp only [Act.put, List.setIfInBounds_toArray, List.set_cons_zero, List.set_cons_succ]
        refine wpAnyH_ready (rs := [6]) (by kernel_rfl) (by simp) ?_
        refine AllReadyH.cons (o := ⟨some 51, _, _, _, _, _⟩) rfl (fun KK hK => ?_) AllReadyH.nil
        go_simp
        refine (int_any w.heap.size P hNP _ (by have := HL.out; have := beB_len 8 (zig p); rw [List.length_append]; omega) q hq0 hq1 _ HW.out.size HWS.out).mono ?_
        rintro e w6 ⟨rfl, hws, hkp⟩
        replace HB := Lib.hid (hkp.blk _ _ _ HB.out (by decide) (by decide))
        replace HW := Lib.hid (HW.out.trans hkp.bel)
        replace HWS := Lib.hid hws
        clear hws hkp
        go_wp2_with fail
        refine hK.out _ _ ⟨HB.out.cell 6 rfl, HB.out.cell 7 rfl⟩ (fun hHeld => ?_)
        clear hK; try clear KK
        try simp only [Act.put, List.setIfInBounds_toArray, List.set_cons_zero, List.set_cons_succ]
        refine wpAnyH_done (by kernel_rfl) ?_ _
        have HL2 := Lib.hid (show (l ++ beB 8 (zig p) ++ beB 8 (zig q)).length ≤ 100 by have := HL.out; have := beB_len 8 (zig p); have := beB_len 8 (zig q); rw [List.length_append, List.length_append]; omega)
        have HL3 := Lib.hid (show 0 < (l ++ beB 8 (zig p) ++ beB 8 (zig q)).length by have := HL0.out; rw [List.length_append, List.length_append]; omega)
        rw [← HF1.out] at HWS HL2 HL3
        go_wp2_with fail
        refine (bytes_any w.heap.size P _ HL3.out (by have := HL2.out; omega) _ HWS.out).mono ?_
        rintro e w9 ⟨v, rfl, hv, hb⟩
        go_wp2_with fail
        go_ret2
        exact .inl ⟨HF.out, _, rfl, own_mono hv HW.out.size, HW.out.trans (hb.mono HW.out.size)⟩
      ·
        go_simp
        change KK _ (World.alloc wd (.cells #[.int .u8 (b : Int), .int .u8 (t : Int), .int .u8 (f : Int)] 5))
        have HNB := Lib.hid (Blk.new wd #[.int .u8 (b : Int), .int .u8 (t : Int), .int .u8 (f : Int)] 5 (World.heap wd).size rfl)
        have HNR := Lib.hid (nr_new HWS.out (.cells #[.int .u8 (b : Int), .int .u8 (t : Int), .int .u8 (f : Int)] 5))
        replace HB := Lib.hid (HB.out.old (.cells #[.int .u8 (b : Int), .int .u8 (t : Int), .int .u8 (f : Int)] 5))
        replace HW := Lib.hid (HW.out.alloc HW.out.size (.cells #[.int .u8 (b : Int), .int .u8 (t : Int), .int .u8 (f : Int)] 5))
        replace HWS := Lib.hid (ws_alloc HWS.out (.cells #[.int .u8 (b : Int), .int .u8 (t : Int), .int .u8 (f : Int)] 5))
        refine hK.out _ _ ⟨HB.out.cell 3 rfl, HB.out.cell 4 rfl, HB.out.cell 5 rfl, HB.out.cell 8 rfl⟩ (fun hHeld => ?_)
        clear hK; try clear KK
        try simp only [Act.put, List.setIfInBounds_toArray, List.set_cons_zero, List.set_cons_succ]
        refine wpAnyH_ready (rs := [4]) (by kernel_rfl) (by simp) ?_
        refine AllReadyH.cons (o := ⟨some 30, _, _, _, _, _⟩) rfl (fun KK hK => ?_) AllReadyH.nil
        go_simp
        refine (num_any w.heap.size P hNP l (by have := HL.out; omega) a (by omega) _ HW.out.size HWS.out).mono ?_
        rintro e w4 ⟨rfl, hws, hkp⟩
        replace HNB := Lib.hid (show Blk w4 wd.heap.size #[.int .u8 (b : Int), .int .u8 (t : Int), .int .u8 (f : Int)] 5 from ((hkp.apart _ HNB.out.lt HNR.out).2).trans HNB.out)
        replace HB := Lib.hid (hkp.blk _ _ _ HB.out (by decide) (by decide))
        replace HW := Lib.hid (HW.out.trans hkp.bel)
        replace HWS := Lib.hid hws
        clear hws hkp
        go_wp2_with fail
        refine hK.out _ _ ⟨HB.out.cell 3 rfl, HB.out.cell 4 rfl, HB.out.cell 5 rfl, HB.out.cell 8 rfl⟩ (fun hHeld => ?_)
        clear hK; try clear KK
        try simp only [Act.put, List.setIfInBounds_toArray, List.set_cons_zero, List.set_cons_succ]
        refine wpAnyH_ready (rs := [15]) (by kernel_rfl) (by simp) ?_
        refine AllReadyH.cons (o := ⟨some 41, _, _, _, _, _⟩) rfl (fun KK hK => ?_) AllReadyH.nil
        go_simp
        refine (raw_any w.heap.size P hNP _ [b, t, f] (by have := HL.out; have := numB_len a; rw [List.length_append]; omega) (by simp) (by simp) _ 3 _ HW.out.size HWS.out HNB.out).mono ?_
        rintro e w7 ⟨rfl, hws, hkp⟩
        clear HNB HNR
        replace HB := Lib.hid (hkp.blk _ _ _ HB.out (by decide) (by decide))
        replace HW := Lib.hid (HW.out.trans hkp.bel)
        replace HWS := Lib.hid hws
        clear hws hkp
        go_wp2_with fail
        refine hK.out _ _ ⟨HB.out.cell 3 rfl, HB.out.cell 4 rfl, HB.out.cell 5 rfl, HB.out.cell 8 rfl⟩ (fun hHeld => ?_)
        clear hK; try clear KK
        try simp only [Act.put, List.setIfInBounds_toArray, List.set_cons_zero, List.set_cons_succ]
        refine wpAnyH_done (by kernel_rfl) ?_ _
        have HL2 := Lib.hid (show (l ++ numB a ++ [b, t, f]).length ≤ 40 by have := HL.out; have := numB_len a; rw [List.length_append, List.length_append]; simp; omega)
        have HL20 := Lib.hid (show 0 < (l ++ numB a ++ [b, t, f]).length by simp; omega)
        have HLE2 := Lib.hid (show l ++ numB a ++ [b, t, f] = [1, s] ++ numB i ++ numB a ++ [b, t, f] by rw [HLE.out])
        clear HL HL0 HLE
        generalize l ++ numB a ++ [b, t, f] = l at HWS HL2 HL20 HLE2
        have HL := HL2
        have HL0 := HL20
        clear HL2 HL20
        have HF1 := Lib.hid (show formC ⟨((1 : Nat) : Int), s, i, a, b, t, p, q, f⟩ = l ++ beB 8 (zig p) ++ beB 8 (zig q) by rw [HLE2.out]; simp [formC])
        have c0 : w7.cell? ⟨w.heap.size, 0, none⟩ = some (.int .i64 ((1 : Nat) : Int)) := HB.out.cell 0 rfl
        go_wp2_with fail
        replace HB := Lib.hid (show Blk w7.drew w.heap.size _ 164 from HB.out)
        replace HW := Lib.hid (show Below w.heap.size w w7.drew from HW.out.drew)
        replace HWS := Lib.hid (show WS w.heap.size P l w7.drew from HWS.out)
        refine wp_region_held_drew (S := (fun w' => w'.cell? ⟨w.heap.size, 6, none⟩ = some (.int .i64 p) ∧ w'.cell? ⟨w.heap.size, 7, none⟩ = some (.int .i64 q))) (by kernel_rfl) ⟨HB.out.cell 6 rfl, HB.out.cell 7 rfl⟩ (fun hHeld => ?_)
        generalize w7.drew = wd at HB HW HWS hHeld ⊢
        refine wpAnyH_take (i := 0) (oi := ⟨some 45, _, _, _, _, _⟩) (v := (.pointer (some ⟨P, 0, none⟩))) rfl (by kernel_rfl) (by kernel_rfl) (by kernel_rfl) (fun _ _ _ h => h) (Or.inl ⟨by rfl, fun w hSw => by (try dsimp only at hSw); go_simp⟩) (by assumption) ?_
        simp only [Act.put, List.setIfInBounds_toArray, List.set_cons_zero, List.set_cons_succ]
        refine wpAnyH_take (i := 1) (oi := ⟨some 46, _, _, _, _, _⟩) (v := (.pointer (some ⟨w.heap.size, 6, none⟩))) rfl (by kernel_rfl) (by kernel_rfl) (by kernel_rfl) (fun _ _ _ h => h) (Or.inl ⟨by rfl, fun w hSw => by (try dsimp only at hSw); go_simp⟩) (by assumption) ?_
        simp only [Act.put, List.setIfInBounds_toArray, List.set_cons_zero, List.set_cons_succ]
        refine wpAnyH_take (i := 2) (oi := ⟨some 47, _, _, _, _, _⟩) (v := (.int .i64 p)) rfl (by kernel_rfl) (by kernel_rfl) (by kernel_rfl) (fun _ _ _ h => h) (Or.inl ⟨by rfl, fun w hSw => by (try dsimp only at hSw); go_simp⟩) (by assumption) ?_
        simp only [Act.put, List.setIfInBounds_toArray, List.set_cons_zero, List.set_cons_succ]
        refine wpAnyH_take (i := 4) (oi := ⟨some 49, _, _, _, _, _⟩) (v := (.pointer (some ⟨w.heap.size, 7, none⟩))) rfl (by kernel_rfl) (by kernel_rfl) (by kernel_rfl) (fun _ _ _ h => h) (Or.inl ⟨by rfl, fun w hSw => by (try dsimp only at hSw); go_simp⟩) (by assumption) ?_
        simp only [Act.put, List.setIfInBounds_toArray, List.set_cons_zero, List.set_cons_succ]
        refine wpAnyH_take (i := 5) (oi := ⟨some 50, _, _, _, _, _⟩) (v := (.int .i64 q)) rfl (by kernel_rfl) (by kernel_rfl) (by kernel_rfl) (fun _ _ _ h => h) (Or.inl ⟨by rfl, fun w hSw => by (try dsimp only at hSw); go_simp⟩) (by assumption) ?_
        simp only [Act.put, List.setIfInBounds_toArray, List.set_cons_zero, List.set_cons_succ]
        refine wpAnyH_ready (rs := [3]) (by kernel_rfl) (by simp) ?_
        refine AllReadyH.cons (o := ⟨some 48, _, _, _, _, _⟩) rfl (fun KK hK => ?_) AllReadyH.nil
        go_simp
        refine (int_any w.heap.size P hNP l (by have := HL.out; omega) p hp0 hp1 _ HW.out.size HWS.out).mono ?_
        rintro e w5 ⟨rfl, hws, hkp⟩
        replace HB := Lib.hid (hkp.blk _ _ _ HB.out (by decide) (by decide))
        replace HW := Lib.hid (HW.out.trans hkp.bel)
        replace HWS := Lib.hid hws
        clear hws hkp
        go_wp2_with fail
        refine hK.out _ _ ⟨HB.out.cell 6 rfl, HB.out.cell 7 rfl⟩ (fun hHeld => ?_)
        clear hK; try clear KK
        try simp only [Act.put, List.setIfInBounds_toArray, List.set_cons_zero, List.set_cons_succ]
        refine wpAnyH_ready (rs := [6]) (by kernel_rfl) (by simp) ?_
        refine AllReadyH.cons (o := ⟨some 51, _, _, _, _, _⟩) rfl (fun KK hK => ?_) AllReadyH.nil
        go_simp
        refine (int_any w.heap.size P hNP _ (by have := HL.out; have := beB_len 8 (zig p); rw [List.length_append]; omega) q hq0 hq1 _ HW.out.size HWS.out).mono ?_
        rintro e w6 ⟨rfl, hws, hkp⟩
        replace HB := Lib.hid (hkp.blk _ _ _ HB.out (by decide) (by decide))
        replace HW := Lib.hid (HW.out.trans hkp.bel)
        replace HWS := Lib.hid hws
        clear hws hkp
        go_wp2_with fail
        refine hK.out _ _ ⟨HB.out.cell 6 rfl, HB.out.cell 7 rfl⟩ (fun hHeld => ?_)
        clear hK; try clear KK
        try simp only [Act.put, List.setIfInBounds_toArray, List.set_cons_zero, List.set_cons_succ]
        refine wpAnyH_done (by kernel_rfl) ?_ _
        have HL2 := Lib.hid (show (l ++ beB 8 (zig p) ++ beB 8 (zig q)).length ≤ 100 by have := HL.out; have := beB_len 8 (zig p); have := beB_len 8 (zig q); rw [List.length_append, List.length_append]; omega)
        have HL3 := Lib.hid (show 0 < (l ++ beB 8 (zig p) ++ beB 8 (zig q)).length by have := HL0.out; rw [List.length_append, List.length_append]; omega)
        rw [← HF1.out] at HWS HL2 HL3
        go_wp2_with fail
        refine (bytes_any w.heap.size P _ HL3.out (by have := HL2.out; omega) _ HWS.out).mono ?_
        rintro e w9 ⟨v, rfl, hv, hb⟩
        go_wp2_with fail
        go_ret2
        exact .inl ⟨HF.out, _, rfl, own_mono hv HW.out.size, HW.out.trans (hb.mono HW.out.size)⟩
    · have g1 : ((k : Int) == 1) = false := by simp; omega
      by_cases hk2 : k = 2
      · subst hk2
        have HF1 := Lib.hid (show formC ⟨((2 : Nat) : Int), s, i, a, b, t, p, q, f⟩ = l by rw [HLE.out]; simp [formC])
        clear h1 hk hk1
        go_wp2_with fail
        refine (bytes_any w.heap.size P l HL0.out (by have := HL.out; omega) _ HWS.out).mono ?_
        rintro e w9 ⟨v, rfl, hv, hb⟩
        go_wp2_with fail
        go_ret2
        exact .inl ⟨HF.out, _, rfl, by rw [HF1.out]; exact own_mono hv HW.out.size, HW.out.trans (hb.mono HW.out.size)⟩
      · have g2 : ((k : Int) != 2) = true := by simp; omega
        have h1' : ¬ (k : Int) = 1 := by omega
        have h2' : ¬ (k : Int) = 2 := by omega
        have HF1 := Lib.hid (show formC ⟨(k : Int), s, i, a, b, t, p, q, f⟩ = l ++ beB 8 (zig p) ++ beB 8 (zig q) by rw [HLE.out]; simp [formC, h1', h2'])
        clear h1' h2'
        clear h1 hk hk1 hk2
        replace HL := Lib.hid (show l.length ≤ 40 by have := HL.out; omega)
        go_wp2_with fail
        replace HB := Lib.hid (show Blk w3.drew w.heap.size _ 164 from HB.out)
        replace HW := Lib.hid (show Below w.heap.size w w3.drew from HW.out.drew)
        replace HWS := Lib.hid (show WS w.heap.size P l w3.drew from HWS.out)
        refine wp_region_held_drew (S := (fun w' => w'.cell? ⟨w.heap.size, 6, none⟩ = some (.int .i64 p) ∧ w'.cell? ⟨w.heap.size, 7, none⟩ = some (.int .i64 q))) (by kernel_rfl) ⟨HB.out.cell 6 rfl, HB.out.cell 7 rfl⟩ (fun hHeld => ?_)
        generalize w3.drew = wd at HB HW HWS hHeld ⊢
        refine wpAnyH_take (i := 0) (oi := ⟨some 45, _, _, _, _, _⟩) (v := (.pointer (some ⟨P, 0, none⟩))) rfl (by kernel_rfl) (by kernel_rfl) (by kernel_rfl) (fun _ _ _ h => h) (Or.inl ⟨by rfl, fun w hSw => by (try dsimp only at hSw); go_simp⟩) (by assumption) ?_
        simp only [Act.put, List.setIfInBounds_toArray, List.set_cons_zero, List.set_cons_succ]
        refine wpAnyH_take (i := 1) (oi := ⟨some 46, _, _, _, _, _⟩) (v := (.pointer (some ⟨w.heap.size, 6, none⟩))) rfl (by kernel_rfl) (by kernel_rfl) (by kernel_rfl) (fun _ _ _ h => h) (Or.inl ⟨by rfl, fun w hSw => by (try dsimp only at hSw); go_simp⟩) (by assumption) ?_
        simp only [Act.put, List.setIfInBounds_toArray, List.set_cons_zero, List.set_cons_succ]
        refine wpAnyH_take (i := 2) (oi := ⟨some 47, _, _, _, _, _⟩) (v := (.int .i64 p)) rfl (by kernel_rfl) (by kernel_rfl) (by kernel_rfl) (fun _ _ _ h => h) (Or.inl ⟨by rfl, fun w hSw => by (try dsimp only at hSw); go_simp⟩) (by assumption) ?_
        simp only [Act.put, List.setIfInBounds_toArray, List.set_cons_zero, List.set_cons_succ]
        refine wpAnyH_take (i := 4) (oi := ⟨some 49, _, _, _, _, _⟩) (v := (.pointer (some ⟨w.heap.size, 7, none⟩))) rfl (by kernel_rfl) (by kernel_rfl) (by kernel_rfl) (fun _ _ _ h => h) (Or.inl ⟨by rfl, fun w hSw => by (try dsimp only at hSw); go_simp⟩) (by assumption) ?_
        simp only [Act.put, List.setIfInBounds_toArray, List.set_cons_zero, List.set_cons_succ]
        refine wpAnyH_take (i := 5) (oi := ⟨some 50, _, _, _, _, _⟩) (v := (.int .i64 q)) rfl (by kernel_rfl) (by kernel_rfl) (by kernel_rfl) (fun _ _ _ h => h) (Or.inl ⟨by rfl, fun w hSw => by (try dsimp only at hSw); go_simp⟩) (by assumption) ?_
        simp only [Act.put, List.setIfInBounds_toArray, List.set_cons_zero, List.set_cons_succ]
        refine wpAnyH_ready (rs := [3]) (by kernel_rfl) (by simp) ?_
        refine AllReadyH.cons (o := ⟨some 48, _, _, _, _, _⟩) rfl (fun KK hK => ?_) AllReadyH.nil
        go_simp
        refine (int_any w.heap.size P hNP l (by have := HL.out; omega) p hp0 hp1 _ HW.out.size HWS.out).mono ?_
        rintro e w5 ⟨rfl, hws, hkp⟩
        replace HB := Lib.hid (hkp.blk _ _ _ HB.out (by decide) (by decide))
        replace HW := Lib.hid (HW.out.trans hkp.bel)
        replace HWS := Lib.hid hws
        clear hws hkp
        go_wp2_with fail
        refine hK.out _ _ ⟨HB.out.cell 6 rfl, HB.out.cell 7 rfl⟩ (fun hHeld => ?_)
        clear hK; try clear KK
        try simp only [Act.put, List.setIfInBounds_toArray, List.set_cons_zero, List.set_cons_succ]
        refine wpAnyH_ready (rs := [6]) (by kernel_rfl) (by simp) ?_
        refine AllReadyH.cons (o := ⟨some 51, _, _, _, _, _⟩) rfl (fun KK hK => ?_) AllReadyH.nil
        go_simp
        refine (int_any w.heap.size P hNP _ (by have := HL.out; have := beB_len 8 (zig p); rw [List.length_append]; omega) q hq0 hq1 _ HW.out.size HWS.out).mono ?_
        rintro e w6 ⟨rfl, hws, hkp⟩
        replace HB := Lib.hid (hkp.blk _ _ _ HB.out (by decide) (by decide))
        replace HW := Lib.hid (HW.out.trans hkp.bel)
        replace HWS := Lib.hid hws
        clear hws hkp
        go_wp2_with fail
        refine hK.out _ _ ⟨HB.out.cell 6 rfl, HB.out.cell 7 rfl⟩ (fun hHeld => ?_)
        clear hK; try clear KK
        try simp only [Act.put, List.setIfInBounds_toArray, List.set_cons_zero, List.set_cons_succ]
        refine wpAnyH_done (by kernel_rfl) ?_ _
        have HL2 := Lib.hid (show (l ++ beB 8 (zig p) ++ beB 8 (zig q)).length ≤ 100 by have := HL.out; have := beB_len 8 (zig p); have := beB_len 8 (zig q); rw [List.length_append, List.length_append]; omega)
        have HL3 := Lib.hid (show 0 < (l ++ beB 8 (zig p) ++ beB 8 (zig q)).length by have := HL0.out; rw [List.length_append, List.length_append]; omega)
        rw [← HF1.out] at HWS HL2 HL3
        go_wp2_with fail
        refine (bytes_any w.heap.size P _ HL3.out (by have := HL2.out; omega) _ HWS.out).mono ?_
        rintro e w9 ⟨v, rfl, hv, hb⟩
        go_wp2_with fail
        go_ret2
        exact .inl ⟨HF.out, _, rfl, own_mono hv HW.out.size, HW.out.trans (hb.mono HW.out.size)⟩
end Go.Proofs.YtmkcooamgojbpaaDoor.Cmds

/- Numbers read of bytes: plain lists. -/
namespace Go.Proofs.YtmkcooamgojbpaaDoor.Octets
set_option linter.unusedVariables false

/-- What a reading comes to: a fault, or what was read and what is left. -/
inductive Rd (α : Type) where
  | bad (f : Int) : Rd α
  | ok (x : α) (l : List Nat) : Rd α
def beV (l : List Nat) : Nat := l.foldl (fun a b => a * 256 + b) 0
def uintR (k : Nat) (l : List Nat) : Rd Nat := if l.length < k then .bad 3 else .ok (beV (l.take k)) (l.drop k)
def zag (n : Nat) : Int := if n % 2 = 0 then (n / 2 : Nat) else -((n / 2 : Nat) : Int) - 1
def numR : Nat → Nat → List Nat → Rd Nat
  | i, _, [] => if 10 ≤ i then .bad 4 else .bad 3
  | i, n, b :: l =>
    if 10 ≤ i then .bad 4
    else if i = 9 ∧ 1 < b % 128 then .bad 4
    else if b < 128 then (if b % 128 = 0 ∧ 0 < i then .bad 4 else .ok (n + b % 128 * 128 ^ i) l)
    else numR (i + 1) (n + b % 128 * 128 ^ i) l
theorem zag_zig (n : Int) : zag (zig n) = n := by unfold zag zig; split <;> split <;> omega
theorem zig_zag (n : Nat) : zig (zag n) = n := by
  unfold zag
  split
  · unfold zig; split <;> omega
  · unfold zig; split <;> omega
theorem zag_in {n : Nat} (h : n < 18446744073709551616) : -9223372036854775808 ≤ zag n ∧ zag n ≤ 9223372036854775807 := by unfold zag; split <;> omega
theorem beV_snoc (l : List Nat) (b : Nat) : beV (l ++ [b]) = beV l * 256 + b := by simp [beV, List.foldl_append]
theorem beV_foldl (l : List Nat) : ∀ a, l.foldl (fun a b => a * 256 + b) a = a * 256 ^ l.length + beV l := by
  induction l with
  | nil => intro a; simp [beV]
  | cons b l ih =>
    intro a
    have h1 := ih (a * 256 + b)
    have h2 := ih b
    rw [List.foldl_cons, h1]
    have : beV (b :: l) = b * 256 ^ l.length + beV l := by
      have : beV (b :: l) = l.foldl (fun a b => a * 256 + b) (0 * 256 + b) := rfl
      rw [this, Nat.zero_mul, Nat.zero_add, h2]
    rw [this, List.length_cons, Nat.pow_succ, Nat.add_mul, Nat.mul_assoc, Nat.mul_comm 256, Nat.add_assoc]
theorem beV_cons (b : Nat) (l : List Nat) : beV (b :: l) = b * 256 ^ l.length + beV l := by
  have h2 := beV_foldl l b
  have : beV (b :: l) = l.foldl (fun a b => a * 256 + b) (0 * 256 + b) := rfl
  rw [this, Nat.zero_mul, Nat.zero_add, h2]
theorem beV_lt (l : List Nat) (h : ∀ b ∈ l, b < 256) : beV l < 256 ^ l.length := by
  induction l with
  | nil => simp [beV]
  | cons b l ih =>
    rw [beV_cons, List.length_cons, Nat.pow_succ]
    have h1 := ih (fun c hc => h c (List.mem_cons_of_mem _ hc))
    have h2 := h b List.mem_cons_self
    have : b * 256 ^ l.length ≤ 255 * 256 ^ l.length := Nat.mul_le_mul_right _ (by omega)
    omega
theorem beB_beV (l : List Nat) (h : ∀ b ∈ l, b < 256) : ∀ m, beB l.length (m * 256 ^ l.length + beV l) = l := by
  induction l with
  | nil => intro m; rfl
  | cons b l ih =>
    intro m
    have hl : ∀ c ∈ l, c < 256 := fun c hc => h c (List.mem_cons_of_mem _ hc)
    have h1 := beV_lt l hl
    have h2 := h b List.mem_cons_self
    have hp : 0 < 256 ^ l.length := Nat.pow_pos (by omega)
    rw [List.length_cons, beB, beV_cons]
    have e : m * 256 ^ (l.length + 1) + (b * 256 ^ l.length + beV l) = (m * 256 + b) * 256 ^ l.length + beV l := by
      rw [Nat.pow_succ, Nat.add_mul, Nat.mul_assoc, Nat.mul_comm 256, Nat.add_assoc]
    rw [e, ih hl (m * 256 + b)]
    congr 1
    rw [Nat.add_comm, Nat.add_mul_div_right _ _ hp, Nat.div_eq_of_lt h1]
    omega
theorem be_of {k : Nat} {l : List Nat} (hk : l.length = k) (h : ∀ b ∈ l, b < 256) : beB k (beV l) = l := by
  subst hk
  have := beB_beV l h 0
  rwa [Nat.zero_mul, Nat.zero_add] at this
theorem beB_byte (k n : Nat) : ∀ b ∈ beB k n, b < 256 := by
  induction k with
  | zero => intro b hb; simp [beB] at hb
  | succ k ih =>
    intro b hb
    rw [beB] at hb
    rcases List.mem_cons.1 hb with rfl | hb
    · omega
    · exact ih b hb
theorem beV_beB (k n : Nat) : beV (beB k n) = n % 256 ^ k := by
  induction k with
  | zero => simp [beB, beV, Nat.mod_one]
  | succ k ih =>
    rw [beB, beV_cons, ih, beB_len, Nat.pow_succ]
    have := Nat.mod_mul (x := n) (a := 256 ^ k) (b := 256)
    rw [this, Nat.mul_comm, Nat.add_comm]
theorem uintR_be {k n : Nat} (h : n < 256 ^ k) (l : List Nat) : uintR k (beB k n ++ l) = .ok n l := by
  unfold uintR
  have hl := beB_len k n
  rw [if_neg (by simp [hl]), List.take_append_of_le_length (by omega), List.take_of_length_le (by omega), beV_beB, Nat.mod_eq_of_lt h, List.drop_append_of_le_length (by omega), List.drop_of_length_le (by omega), List.nil_append]
theorem uintR_of {k n : Nat} {l l' : List Nat} (hb : ∀ b ∈ l, b < 256) (h : uintR k l = .ok n l') : l = beB k n ++ l' ∧ n < 256 ^ k := by
  unfold uintR at h
  split at h
  · cases h
  · rename_i hl
    injection h with h1 h2
    subst h1 h2
    have e : (l.take k).length = k := by rw [List.length_take]; omega
    have hb' : ∀ b ∈ l.take k, b < 256 := fun b hm => hb b (List.mem_of_mem_take hm)
    rw [be_of e hb', List.take_append_drop]
    refine ⟨rfl, ?_⟩
    have := beV_lt _ hb'
    rwa [e] at this
theorem ten (i : Nat) (h : i ≤ 9) : i = 0 ∨ i = 1 ∨ i = 2 ∨ i = 3 ∨ i = 4 ∨ i = 5 ∨ i = 6 ∨ i = 7 ∨ i = 8 ∨ i = 9 := by omega
theorem numR_num : ∀ (f i a n : Nat) (l : List Nat), i + f = 10 → i ≤ 9 → n * 128 ^ i < 18446744073709551616 → (0 < i → 0 < n) → numR i a (numG f n ++ l) = .ok (a + n * 128 ^ i) l := by
  intro f
  induction f with
  | zero => intro i a n l h1 h2; omega
  | succ f ih =>
    intro i a n l h1 h2 h3 h4
    have h9 : i = 9 → n < 2 := fun e => by subst e; omega
    by_cases hn : n < 128
    · rw [numG, if_pos hn, List.singleton_append, numR, if_neg (by omega), if_neg (by omega), if_pos hn, if_neg (by omega), Nat.mod_eq_of_lt hn]
    · rw [numG, if_neg hn, List.cons_append, numR, if_neg (by omega), if_neg (by omega), if_neg (by omega)]
      have e1 : (n % 128 + 128) % 128 = n % 128 := by omega
      have e2 : n / 128 * 128 ^ (i + 1) = n / 128 * 128 * 128 ^ i := by rw [Nat.pow_succ, Nat.mul_comm (128 ^ i) 128, Nat.mul_assoc]
      have h5 : n / 128 * 128 * 128 ^ i ≤ n * 128 ^ i := Nat.mul_le_mul_right _ (by omega)
      have hi9 : i ≠ 9 := fun e => by have := h9 e; omega
      rw [e1, ih (i + 1) _ (n / 128) l (by omega) (by omega) (by rw [e2]; omega) (fun _ => by omega)]
      congr 1
      rw [e2, Nat.add_assoc, ← Nat.add_mul]
      congr 2
      omega
theorem room_up {x n P Q M : Nat} (hx : x < 128) (hM : M = Q * (128 * P)) (h : n * (128 * P) < M) : (x + n * 128) * P < M := by
  subst hM
  have h1 : n < Q := Nat.lt_of_mul_lt_mul_right h
  rcases Nat.eq_zero_or_pos P with h0 | h0
  · subst h0; simp at h
  · have h2 : (x + n * 128) * P < (Q * 128) * P := (Nat.mul_lt_mul_right h0).2 (by omega)
    rwa [Nat.mul_assoc] at h2
theorem room (i : Nat) (h : i ≤ 8) : ∃ Q, 18446744073709551616 = Q * (128 * 128 ^ i) := by
  have : i = 0 ∨ i = 1 ∨ i = 2 ∨ i = 3 ∨ i = 4 ∨ i = 5 ∨ i = 6 ∨ i = 7 ∨ i = 8 := by omega
  rcases this with rfl | rfl | rfl | rfl | rfl | rfl | rfl | rfl | rfl
  · exact ⟨144115188075855872, by decide⟩
  · exact ⟨1125899906842624, by decide⟩
  · exact ⟨8796093022208, by decide⟩
  · exact ⟨68719476736, by decide⟩
  · exact ⟨536870912, by decide⟩
  · exact ⟨4194304, by decide⟩
  · exact ⟨32768, by decide⟩
  · exact ⟨256, by decide⟩
  · exact ⟨2, by decide⟩
theorem num_of : ∀ (l : List Nat) (i a m : Nat) (l' : List Nat), i ≤ 9 → (∀ b ∈ l, b < 256) → numR i a l = .ok m l' → ∃ n, l = numG (10 - i) n ++ l' ∧ m = a + n * 128 ^ i ∧ n * 128 ^ i < 18446744073709551616 ∧ (0 < i → 0 < n) := by
  intro l
  induction l with
  | nil =>
    intro i a m l' hi hb h
    rw [numR] at h
    split at h <;> cases h
  | cons b l ih =>
    intro i a m l' hi hb h
    have hb0 := hb b List.mem_cons_self
    rw [numR, if_neg (by omega)] at h
    split at h
    · cases h
    · rename_i h9
      split at h
      · rename_i hlt
        split at h
        · cases h
        · rename_i hz
          injection h with h1 h2
          subst h1 h2
          have hm : b % 128 = b := Nat.mod_eq_of_lt hlt
          rw [hm] at hz h9
          refine ⟨b, ?_, by rw [hm], ?_, fun h => by omega⟩
          · rw [show 10 - i = (9 - i) + 1 by omega, numG, if_pos hlt]; rfl
          · rcases ten i hi with rfl | rfl | rfl | rfl | rfl | rfl | rfl | rfl | rfl | rfl <;> omega
      · rename_i hge
        by_cases hi9 : i = 9
        · subst hi9
          exfalso
          cases l with
          | nil => rw [numR] at h; simp at h
          | cons c l => rw [numR] at h; simp at h
        · obtain ⟨n, e1, e2, e3, e4⟩ := ih (i + 1) _ m l' (by omega) (fun c hc => hb c (List.mem_cons_of_mem _ hc)) h
          have hp : 128 ^ (i + 1) = 128 * 128 ^ i := by rw [Nat.pow_succ, Nat.mul_comm]
          have hn := e4 (by omega)
          refine ⟨b % 128 + n * 128, ?_, ?_, ?_, fun _ => by omega⟩
          · rw [show 10 - i = (10 - (i + 1)) + 1 by omega, numG, if_neg (by omega), e1]
            have : (b % 128 + n * 128) % 128 + 128 = b := by omega
            rw [this, show (b % 128 + n * 128) / 128 = n by omega]; rfl
          · rw [e2, hp, Nat.add_mul, Nat.mul_assoc, Nat.add_assoc]
          · obtain ⟨Q, hQ⟩ := room i (by omega)
            rw [hp] at e3
            exact room_up (Nat.mod_lt _ (by omega)) hQ e3
theorem numR_numB {n : Nat} (h : n < 18446744073709551616) (l : List Nat) : numR 0 0 (numB n ++ l) = .ok n l := by
  have := numR_num 10 0 0 n l (by omega) (by omega) (by omega) (fun h => by omega)
  rw [Nat.pow_zero, Nat.mul_one, Nat.zero_add] at this
  exact this
theorem numR_of {l l' : List Nat} {n : Nat} (hb : ∀ b ∈ l, b < 256) (h : numR 0 0 l = .ok n l') : l = numB n ++ l' ∧ n < 18446744073709551616 := by
  obtain ⟨m, e1, e2, e3, -⟩ := num_of l 0 0 n l' (by omega) hb h
  rw [Nat.pow_zero, Nat.mul_one] at e2 e3
  rw [Nat.zero_add] at e2
  subst e2
  exact ⟨e1, e3⟩
end Go.Proofs.YtmkcooamgojbpaaDoor.Octets

/- A command of its bytes: plain. -/
namespace Go.Proofs.YtmkcooamgojbpaaDoor.Cmds
open Go.Proofs.YtmkcooamgojbpaaDoor.Octets
set_option linter.unusedVariables false

def Rd.bind {α β : Type} (r : Rd α) (f : α → List Nat → Rd β) : Rd β := match r with
  | .bad e => .bad e
  | .ok x l => f x l
def byteR : List Nat → Rd Nat
  | [] => .bad 3
  | b :: l => .ok b l
/-- What only a new order has. -/
structure NewP where
  a : Nat
  b : Nat
  t : Nat
  f : Nat
def newR (l : List Nat) : Rd NewP := Rd.bind (numR 0 0 l) fun a l4 => Rd.bind (byteR l4) fun b l5 => Rd.bind (byteR l5) fun t l6 => Rd.bind (byteR l6) fun f l7 => .ok ⟨a, b, t, f⟩ l7
def pqR (l : List Nat) : Rd (Int × Int) := Rd.bind (uintR 8 l) fun p l9 => Rd.bind (uintR 8 l9) fun q l10 => .ok (zag p, zag q) l10
def mkC (k s i : Nat) (x : NewP) (y : Int × Int) : Cmd := ⟨k, s, i, x.a, x.b, x.t, y.1, y.2, x.f⟩
def endR (k s i : Nat) (x : NewP) (y : Int × Int) (l : List Nat) : Rd Cmd :=
  if 4611686018427387904 < i ∨ 1073741824 < x.a ∨ l ≠ [] ∨ rightC (mkC k s i x y) = false then .bad 4 else .ok (mkC k s i x y) []
def partN (k : Nat) (l : List Nat) : Rd NewP := if k = 1 then newR l else .ok ⟨0, 0, 0, 0⟩ l
def partP (k : Nat) (l : List Nat) : Rd (Int × Int) := if k = 2 then .ok (0, 0) l else pqR l
def decF : List Nat → Rd Cmd
  | [] => .bad 3
  | k :: l => if k < 1 ∨ 3 < k then .bad 4 else
    Rd.bind (byteR l) fun s l => Rd.bind (numR 0 0 l) fun i l => Rd.bind (partN k l) fun x l => Rd.bind (partP k l) fun y l => endR k s i x y l
theorem bind_ok {α β : Type} {r : Rd α} {f : α → List Nat → Rd β} {y : β} {l : List Nat} (h : Rd.bind r f = .ok y l) : ∃ x l', r = .ok x l' ∧ f x l' = .ok y l := by
  cases r with
  | bad e => cases h
  | ok x l' => exact ⟨x, l', rfl, h⟩
theorem byte_ok {l l' : List Nat} {b : Nat} (h : byteR l = .ok b l') : l = b :: l' := by
  cases l with
  | nil => cases h
  | cons c l => injection h with h1 h2; subst h1 h2; rfl
theorem sub_right {l l' m : List Nat} (e : l = m ++ l') (h : ∀ b ∈ l, b < 256) : ∀ b ∈ l', b < 256 := fun b hb => h b (by rw [e]; exact List.mem_append_right _ hb)
theorem pow8 : (256 : Nat) ^ 8 = 18446744073709551616 := by decide
theorem i64_toNat {n : Int} (h : 0 ≤ n) : ((n.toNat : Nat) : Int) = n := by omega
/-- What is decoded is right, and has just these bytes. -/
theorem dec_ok {l l' : List Nat} {c : Cmd} (hb : ∀ b ∈ l, b < 256) (h : decF l = .ok c l') : l' = [] ∧ rightC c = true ∧ formC c = l ∧ (-9223372036854775808 ≤ c.p ∧ c.p ≤ 9223372036854775807) ∧ -9223372036854775808 ≤ c.q ∧ c.q ≤ 9223372036854775807 := by
  cases l with
  | nil => cases h
  | cons k l =>
    rw [decF] at h
    split at h
    · cases h
    rename_i hk
    obtain ⟨s, l1, e1, h⟩ := bind_ok h
    obtain ⟨i, l2, e2, h⟩ := bind_ok h
    obtain ⟨x, l3, e3, h⟩ := bind_ok h
    obtain ⟨y, l4, e4, h⟩ := bind_ok h
    have e1 := byte_ok e1
    have hbl : ∀ b ∈ l, b < 256 := fun b hm => hb b (List.mem_cons_of_mem _ hm)
    have hb1 : ∀ b ∈ l1, b < 256 := sub_right (m := [s]) e1 hbl
    obtain ⟨e2, hi⟩ := numR_of hb1 e2
    have hb2 := sub_right e2 hb1
    unfold endR at h
    split at h
    · cases h
    rename_i hbad
    injection h with h5 h6
    subst h5 h6
    have hl4 : l4 = [] := by
      cases l4 with
      | nil => rfl
      | cons a t => exact absurd (.inr (.inr (.inl (by simp)))) hbad
    subst hl4
    have hr : rightC (mkC k s i x y) = true := by
      cases hx : rightC (mkC k s i x y) with
      | true => rfl
      | false => exact absurd (.inr (.inr (.inr hx))) hbad
    refine ⟨rfl, hr, ?_⟩
    have hN : l2 = (if k = 1 then numB x.a ++ [x.b, x.t, x.f] else []) ++ l3 ∧ (∀ b ∈ l3, b < 256) := by
      unfold partN at e3
      split at e3
      · rename_i h1
        rw [if_pos h1]
        unfold newR at e3
        obtain ⟨a, m1, f1, e3⟩ := bind_ok e3
        obtain ⟨b, m2, f2, e3⟩ := bind_ok e3
        obtain ⟨t, m3, f3, e3⟩ := bind_ok e3
        obtain ⟨f, m4, f4, e3⟩ := bind_ok e3
        injection e3 with g1 g2
        subst g1 g2
        obtain ⟨f1, -⟩ := numR_of hb2 f1
        have f2 := byte_ok f2
        have f3 := byte_ok f3
        have f4 := byte_ok f4
        subst f4 f3 f2
        have e : l2 = (numB a ++ [b, t, f]) ++ m4 := by rw [f1]; simp
        exact ⟨e, sub_right e hb2⟩
      · rename_i h1
        rw [if_neg h1]
        injection e3 with g1 g2
        subst g1 g2
        exact ⟨rfl, hb2⟩
    obtain ⟨hN, hb3⟩ := hN
    have hP : l3 = (if k = 2 then [] else beB 8 (zig y.1) ++ beB 8 (zig y.2)) ∧ (-9223372036854775808 ≤ y.1 ∧ y.1 ≤ 9223372036854775807) ∧ -9223372036854775808 ≤ y.2 ∧ y.2 ≤ 9223372036854775807 := by
      unfold partP at e4
      split at e4
      · rename_i h1
        rw [if_pos h1]
        injection e4 with g1 g2
        subst g1 g2
        exact ⟨rfl, by decide, by decide⟩
      · rename_i h1
        rw [if_neg h1]
        unfold pqR at e4
        obtain ⟨p, m1, f1, e4⟩ := bind_ok e4
        obtain ⟨q, m2, f2, e4⟩ := bind_ok e4
        injection e4 with g1 g2
        subst g1 g2
        obtain ⟨f1, hp⟩ := uintR_of hb3 f1
        have hb4 := sub_right f1 hb3
        obtain ⟨f2, hq⟩ := uintR_of hb4 f2
        rw [pow8] at hp hq
        refine ⟨?_, zag_in hp, zag_in hq⟩
        show l3 = beB 8 (zig (zag p)) ++ beB 8 (zig (zag q))
        rw [zig_zag, zig_zag, f1, f2]
        simp
    obtain ⟨hP, hpq⟩ := hP
    refine ⟨?_, hpq⟩
    unfold formC mkC
    dsimp only
    have k1 : ((k : Int) = 1) = (k = 1) := by apply propext; omega
    have k2 : ((k : Int) = 2) = (k = 2) := by apply propext; omega
    simp only [k1, k2, Int.toNat_natCast]
    rw [e1, e2, hN, hP]
    simp
theorem right_zero {c : Cmd} (h : rightC c = true) : (c.k = 2 ∨ c.k = 3 → c.a = 0 ∧ c.b = 0 ∧ c.t = 0 ∧ c.f = 0) ∧ (c.k = 2 → c.p = 0 ∧ c.q = 0) := by
  unfold rightC at h
  split at h
  · cases h
  · split at h
    · cases h
    · split at h
      · rename_i hk; exact ⟨fun h => by omega, fun h => by omega⟩
      · split at h
        · rename_i hk
          simp only [Bool.and_eq_true, beq_iff_eq] at h
          exact ⟨fun _ => ⟨h.1, h.2.1, h.2.2.1, h.2.2.2⟩, fun h => by omega⟩
        · split at h
          · simp only [Bool.and_eq_true, beq_iff_eq] at h
            exact ⟨fun _ => ⟨h.1, h.2.1, h.2.2.1, h.2.2.2.2.2⟩, fun _ => ⟨h.2.2.2.1, h.2.2.2.2.1⟩⟩
          · cases h
/-- The bytes of one that is right are decoded to it. -/
theorem dec_form {c : Cmd} (h : rightC c = true) (hp : -9223372036854775808 ≤ c.p ∧ c.p ≤ 9223372036854775807) (hq : -9223372036854775808 ≤ c.q ∧ c.q ≤ 9223372036854775807) : decF (formC c) = .ok c [] := by
  obtain ⟨hk, hs, hi, hn⟩ := right_in h
  obtain ⟨hz, hz2⟩ := right_zero h
  obtain ⟨k, s, i, a, b, t, p, q, f⟩ := c
  dsimp only at *
  obtain ⟨k, rfl⟩ := Int.eq_ofNat_of_zero_le (show 0 ≤ k by omega)
  obtain ⟨s, rfl⟩ := Int.eq_ofNat_of_zero_le hs.1
  obtain ⟨i, rfl⟩ := Int.eq_ofNat_of_zero_le hi.1
  unfold formC
  dsimp only
  have k1 : ((k : Int) = 1) = (k = 1) := by apply propext; omega
  have k2 : ((k : Int) = 2) = (k = 2) := by apply propext; omega
  simp only [k1, k2, Int.toNat_natCast, List.cons_append, List.nil_append, List.append_assoc]
  rw [decF, if_neg (by omega)]
  simp only [byteR, Rd.bind]
  rw [numR_numB (by omega)]
  dsimp only
  have hz1 : zig p < 256 ^ 8 := by rw [pow8]; exact zig_lt p hp.1 hp.2
  have hz3 : zig q < 256 ^ 8 := by rw [pow8]; exact zig_lt q hq.1 hq.2
  have hP : ∀ l : List Nat, k ≠ 2 → partP k (beB 8 (zig p) ++ (beB 8 (zig q) ++ l)) = .ok (p, q) l := fun l hk2 => by
    unfold partP pqR
    rw [if_neg hk2, uintR_be hz1]
    simp only [Rd.bind]
    rw [uintR_be hz3]
    simp only [zag_zig]
  have hE : ∀ (x : NewP) (y : Int × Int), mkC k s i x y = ⟨k, s, i, a, b, t, p, q, f⟩ → x.a ≤ 1073741824 → endR k s i x y [] = .ok ⟨k, s, i, a, b, t, p, q, f⟩ [] := fun x y e hx => by
    unfold endR
    rw [e, if_neg]
    rintro (h1 | h1 | h1 | h1)
    · omega
    · omega
    · exact h1 rfl
    · rw [h] at h1; cases h1
  by_cases hk1 : k = 1
  · obtain ⟨ha, hb, ht, hf⟩ := hn (by omega)
    obtain ⟨a, rfl⟩ := Int.eq_ofNat_of_zero_le ha.1
    obtain ⟨b, rfl⟩ := Int.eq_ofNat_of_zero_le hb.1
    obtain ⟨t, rfl⟩ := Int.eq_ofNat_of_zero_le (show 0 ≤ t by omega)
    obtain ⟨f, rfl⟩ := Int.eq_ofNat_of_zero_le hf.1
    rw [if_pos hk1, if_neg (by omega)]
    unfold partN newR
    simp only [Int.toNat_natCast, List.append_assoc, List.cons_append, List.nil_append]
    rw [if_pos hk1, numR_numB (by omega)]
    simp only [byteR, Rd.bind]
    have := hP [] (by omega)
    rw [List.append_nil] at this
    rw [this]
    exact hE _ _ rfl (by dsimp only; omega)
  · obtain ⟨rfl, rfl, rfl, rfl⟩ := hz (by omega)
    rw [if_neg hk1]
    unfold partN
    rw [if_neg hk1]
    simp only [List.nil_append]
    by_cases hk2 : k = 2
    · obtain ⟨rfl, rfl⟩ := hz2 (by omega)
      rw [if_pos hk2]
      unfold partP
      rw [if_pos hk2]
      exact hE _ _ rfl (by dsimp only; omega)
    · rw [if_neg hk2]
      have := hP [] hk2
      rw [List.append_nil] at this
      rw [this]
      exact hE _ _ rfl (by dsimp only; omega)
end Go.Proofs.YtmkcooamgojbpaaDoor.Cmds

/- damperref05.Right. -/
namespace Go.Proofs.YtmkcooamgojbpaaDoor.Cmds
set_option linter.unusedVariables false
open Go.RowKit Go.Proofs.YtmkcooamgojbpaaDoor.Kit Go.Proofs.YtmkcooamgojbpaaDoor.Blk Go.Proofs.YtmkcooamgojbpaaDoor.Octets
attribute [local go_sem ↓] Go.wp_at_zero Go.wp_at_succ

set_option maxRecDepth 20000 in
set_option maxHeartbeats 4000000 in
theorem rright_one (c : Cmd) (w : World) (hc : c.k = 1 ∨ inB c.s 0 255 = false ∨ inB c.i 0 4611686018427387904 = false) : Calls Tryd.prog 177 #[.agg c.cells] w fun e w' => e = .returned (.bool (rightC c)) ∧ Below w.heap.size w w' := by
  obtain ⟨k, s, i, a, b, t, p, q, f⟩ := c
  have HB := Lib.hid (show Below w.heap.size w (w.alloc (.cells (Cmd.cells ⟨k, s, i, a, b, t, p, q, f⟩) 164)) from (Below.refl _ _).alloc (Nat.le_refl _) _)
  unfold Cmd.cells at *
  dsimp only at hc
  cases h1 : inB s 0 255 with
  | false =>
    clear hc
    have HS := Lib.hid (show rightC ⟨k, s, i, a, b, t, p, q, f⟩ = false by simp [rightC, h1])
    go_enter Tryd.func177, Tryd.ntmps177
    go_wp2_with (go_at_call 210; refine (rin_any _ _ _ _).mono ?_; rintro e w1 ⟨rfl, rfl⟩)
    go_ret
    exact ⟨ret_bool HS.out.symm, HB.out⟩
  | true =>
    cases h2 : inB i 0 4611686018427387904 with
    | false =>
      have HS := Lib.hid (show rightC ⟨k, s, i, a, b, t, p, q, f⟩ = false by simp [rightC, h2])
      clear hc
      go_enter Tryd.func177, Tryd.ntmps177
      go_wp2_with (go_at_call 210; refine (rin_any _ _ _ _).mono ?_; rintro e w1 ⟨rfl, rfl⟩)
      go_ret
      exact ⟨ret_bool HS.out.symm, HB.out⟩
    | true =>
      · obtain rfl : k = 1 := by simpa [h1, h2] using hc
        clear hc
        cases h3 : inB a 0 1073741824 with
        | false =>
          have HS := Lib.hid (show rightC ⟨1, s, i, a, b, t, p, q, f⟩ = false by simp [rightC, h1, h2, h3])
          go_enter Tryd.func177, Tryd.ntmps177
          go_wp2_with (go_at_call 210; refine (rin_any _ _ _ _).mono ?_; rintro e w1 ⟨rfl, rfl⟩)
          go_ret
          exact ⟨ret_bool HS.out.symm, HB.out⟩
        | true =>
          cases h4 : inB b 0 1 with
          | false =>
            have HS := Lib.hid (show rightC ⟨1, s, i, a, b, t, p, q, f⟩ = false by simp [rightC, h1, h2, h3, h4])
            go_enter Tryd.func177, Tryd.ntmps177
            go_wp2_with (go_at_call 210; refine (rin_any _ _ _ _).mono ?_; rintro e w1 ⟨rfl, rfl⟩)
            go_ret
            exact ⟨ret_bool HS.out.symm, HB.out⟩
          | true =>
            cases h5 : inB t 1 5 with
            | false =>
              have HS := Lib.hid (show rightC ⟨1, s, i, a, b, t, p, q, f⟩ = false by simp [rightC, h1, h2, h3, h4, h5])
              go_enter Tryd.func177, Tryd.ntmps177
              go_wp2_with (go_at_call 210; refine (rin_any _ _ _ _).mono ?_; rintro e w1 ⟨rfl, rfl⟩)
              go_ret
              exact ⟨ret_bool HS.out.symm, HB.out⟩
            | true =>
              cases h6 : inB f 0 7 with
              | false =>
                have HS := Lib.hid (show rightC ⟨1, s, i, a, b, t, p, q, f⟩ = false by simp [rightC, h1, h2, h3, h4, h5, h6])
                go_enter Tryd.func177, Tryd.ntmps177
                go_wp2_with (go_at_call 210; refine (rin_any _ _ _ _).mono ?_; rintro e w1 ⟨rfl, rfl⟩)
                go_ret
                exact ⟨ret_bool HS.out.symm, HB.out⟩
              | true =>
                have HS := Lib.hid (show rightC ⟨1, s, i, a, b, t, p, q, f⟩ = true by simp [rightC, h1, h2, h3, h4, h5, h6])
                go_enter Tryd.func177, Tryd.ntmps177
                go_wp2_with (go_at_call 210; refine (rin_any _ _ _ _).mono ?_; rintro e w1 ⟨rfl, rfl⟩)
                go_ret
                exact ⟨ret_bool HS.out.symm, HB.out⟩
set_option maxRecDepth 20000 in
set_option maxHeartbeats 4000000 in
theorem rright_any (c : Cmd) (w : World) : Calls Tryd.prog 177 #[.agg c.cells] w fun e w' => e = .returned (.bool (rightC c)) ∧ Below w.heap.size w w' := by
  by_cases hc : c.k = 1 ∨ inB c.s 0 255 = false ∨ inB c.i 0 4611686018427387904 = false
  · exact rright_one c w hc
  obtain ⟨k, s, i, a, b, t, p, q, f⟩ := c
  have HB := Lib.hid (show Below w.heap.size w (w.alloc (.cells (Cmd.cells ⟨k, s, i, a, b, t, p, q, f⟩) 164)) from (Below.refl _ _).alloc (Nat.le_refl _) _)
  unfold Cmd.cells at *
  dsimp only at hc
  have hk1 : ¬ k = 1 := fun h => hc (.inl h)
  have h1 : inB s 0 255 = true := by
    cases h : inB s 0 255 with
    | true => rfl
    | false => exact absurd (.inr (.inl h)) hc
  have h2 : inB i 0 4611686018427387904 = true := by
    cases h : inB i 0 4611686018427387904 with
    | true => rfl
    | false => exact absurd (.inr (.inr h)) hc
  have b1 : (k == 1) = false := by simpa using hk1
  clear hc
  by_cases hk3 : k = 3
  · subst hk3
    have HS := Lib.hid (show rightC ⟨3, s, i, a, b, t, p, q, f⟩ = (a == 0 && (b == 0 && (t == 0 && f == 0))) by simp [rightC, h1, h2])
    clear hk1
    go_enter Tryd.func177, Tryd.ntmps177
    go_wp2_with (go_at_call 210; refine (rin_any _ _ _ _).mono ?_; rintro e w1 ⟨rfl, rfl⟩)
    all_goals (subst_vars; go_ret; exact ⟨ret_bool (by rw [HS.out]; try simp [*]), HB.out⟩)
  · have b3 : (k == 3) = false := by simpa using hk3
    by_cases hk2 : k = 2
    · subst hk2
      have HS := Lib.hid (show rightC ⟨2, s, i, a, b, t, p, q, f⟩ = (a == 0 && (b == 0 && (t == 0 && (p == 0 && (q == 0 && f == 0))))) by simp [rightC, h1, h2])
      clear hk1 hk3
      go_enter Tryd.func177, Tryd.ntmps177
      go_wp2_with (go_at_call 210; refine (rin_any _ _ _ _).mono ?_; rintro e w1 ⟨rfl, rfl⟩)
      all_goals (subst_vars; go_ret; exact ⟨ret_bool (by rw [HS.out]; try simp [*]), HB.out⟩)
    · have b2 : (k == 2) = false := by simpa using hk2
      have HS := Lib.hid (show rightC ⟨k, s, i, a, b, t, p, q, f⟩ = false by simp [rightC, h1, h2, hk1, hk2, hk3])
      clear hk1 hk3 hk2
      go_enter Tryd.func177, Tryd.ntmps177
      go_wp2_with (go_at_call 210; refine (rin_any _ _ _ _).mono ?_; rintro e w1 ⟨rfl, rfl⟩)
      all_goals (subst_vars; go_ret; exact ⟨ret_bool (by rw [HS.out]; try simp [*]), HB.out⟩)
end Go.Proofs.YtmkcooamgojbpaaDoor.Cmds

/- damperref05: form, Encode. -/
namespace Go.Proofs.YtmkcooamgojbpaaDoor.Cmds
set_option linter.unusedVariables false
open Go.RowKit Go.Proofs.YtmkcooamgojbpaaDoor.Kit Go.Proofs.YtmkcooamgojbpaaDoor.Blk Go.Proofs.YtmkcooamgojbpaaDoor.Octets
attribute [local go_sem ↓] Go.wp_at_zero Go.wp_at_succ

theorem own_below {N : Nat} {l : List Nat} {v : Value} {W W' : World} (h : Own N l v W) (hb : Below W.heap.size W W') : Own N l v W' :=
  h.kept (row := none) ⟨hb.os, hb.tape, hb.output, hb.size, fun k hk _ => hb.block k hk⟩ (by
    cases hv : v.ownBlock with
    | none => exact .inl rfl
    | some j => exact .inr (by simp))
theorem numB_pos (n : Nat) : 0 < (numB n).length := by
  unfold numB
  cases 10 with
  | zero => simp [numG]
  | succ f => unfold numG; split <;> simp

set_option maxRecDepth 20000 in
set_option maxHeartbeats 4000000 in
theorem form_any (c : Cmd) (w : World) (hr : rightC c = true) (hp0 : -9223372036854775808 ≤ c.p) (hp1 : c.p ≤ 9223372036854775807) (hq0 : -9223372036854775808 ≤ c.q) (hq1 : c.q ≤ 9223372036854775807) :
    Calls Tryd.prog 226 #[.agg c.cells] w fun e w' => BytesIs (formC c) w e w' := by
  obtain ⟨i0, hi0, hz0, hz1, hz2⟩ := info_parts infoU8
  have HB := Lib.hid (Blk.new w c.cells 164 w.heap.size rfl)
  have HW := Lib.hid (show Below w.heap.size w (w.alloc (.cells c.cells 164)) from (Below.refl _ _).alloc (Nat.le_refl _) _)
  have hin := right_in hr
  obtain ⟨k, s, i, a, b, t, p, q, f⟩ := c
  dsimp only at hin hp0 hp1 hq0 hq1
  obtain ⟨hk, ⟨hs0, hs1⟩, ⟨hi0', hi1'⟩, h1⟩ := hin
  obtain ⟨k, rfl⟩ : ∃ n : Nat, k = n := ⟨k.toNat, by omega⟩
  obtain ⟨s, rfl⟩ : ∃ n : Nat, s = n := ⟨s.toNat, by omega⟩
  obtain ⟨i, rfl⟩ : ∃ n : Nat, i = n := ⟨i.toNat, by omega⟩
  have hkb : (k : Int) % 256 = (k : Int) := by omega
  have hsb : (s : Int) % 256 = (s : Int) := by omega
  have hib : (i : Int) % 18446744073709551616 = (i : Int) := by omega
  clear hr
  unfold Cmd.cells at *
  have HCN := Lib.hid (refnum_any i (by omega))
  have HMP := Lib.hid (numB_pos i)
  have HML := Lib.hid (numB_len i)
  have HIE := Lib.hid (show formC ⟨k, s, i, a, b, t, p, q, f⟩ = [k, s] ++ numB i ++ (if (k : Int) = 1 then numB a.toNat ++ [b.toNat, t.toNat, f.toNat] else []) ++ (if (k : Int) = 2 then [] else beB 8 (zig p) ++ beB 8 (zig q)) by simp [formC])
  generalize numB i = m at HCN HMP HML HIE
  have HV := Lib.hid (show Own w.heap.size [k, s] (.slice (some ⟨w.heap.size + 1, 0, none⟩) 2 2) ((w.alloc (.cells #[.int .i64 k, .int .i64 s, .int .i64 i, .int .i64 a, .int .i64 b, .int .i64 t, .int .i64 p, .int .i64 q, .int .i64 f] 164)).alloc (.cells #[.int .u8 (k : Int), .int .u8 (s : Int)] 5)) from ⟨rfl, .inr ⟨_, 2, #[.int .u8 (k : Int), .int .u8 (s : Int)], rfl, by omega, Blk.new _ #[.int .u8 (k : Int), .int .u8 (s : Int)] 5 (w.heap.size + 1) (by simp), Nat.le_refl _, by decide, rfl, rfl⟩⟩)
  go_enter Tryd.func226, Tryd.ntmps226
  go_wp2_with (go_at_call 242; fail)
  replace HB := Lib.hid (HB.out.old (.cells #[.int .u8 (k : Int), .int .u8 (s : Int)] 5))
  replace HW := Lib.hid (HW.out.alloc (by simp) (.cells #[.int .u8 (k : Int), .int .u8 (s : Int)] 5))
  refine (HCN.out _).mono ?_
  rintro e w2 ⟨u, rfl, hu, hb⟩
  obtain ⟨gu, cu, rfl, -, -⟩ := World.ownsRow.form hu (show 0 < List.length m from HMP.out)
  have HUN := Lib.hid (World.ownsRow.cells hu rfl)
  replace HV := Lib.hid (own_below HV.out hb)
  replace HB := Lib.hid (HB.out.below hb HB.out.lt)
  replace HW := Lib.hid (HW.out.trans (hb.mono HW.out.size))
  clear hu hb
  have HL := Lib.hid (show ([k, s] : List Nat).length ≤ 2 by simp)
  have HIE2 := Lib.hid (show ([k, s] ++ m).length ≤ 13 by have := HML.out; simp; omega)
  generalize [k, s] = l at HV HIE HL HIE2
  by_cases hk1 : k = 1
  · subst hk1
    obtain ⟨⟨ha0, ha1⟩, ⟨hb0, hb1⟩, ⟨ht0, ht1⟩, hf0, hf1⟩ := h1 rfl
    obtain ⟨a, rfl⟩ : ∃ n : Nat, a = n := ⟨a.toNat, by omega⟩
    obtain ⟨b, rfl⟩ : ∃ n : Nat, b = n := ⟨b.toNat, by omega⟩
    obtain ⟨t, rfl⟩ : ∃ n : Nat, t = n := ⟨t.toNat, by omega⟩
    obtain ⟨f, rfl⟩ : ∃ n : Nat, f = n := ⟨f.toNat, by omega⟩
    have hab : (a : Int) % 18446744073709551616 = (a : Int) := by omega
    have hbb : (b : Int) % 256 = (b : Int) := by omega
    have htb : (t : Int) % 256 = (t : Int) := by omega
    have hfb : (f : Int) % 256 = (f : Int) := by omega
    have HCA := Lib.hid (refnum_any a (by omega))
    have HAP := Lib.hid (numB_pos a)
    have HAL := Lib.hid (numB_len a)
    replace HIE := Lib.hid (show formC ⟨((1 : Nat) : Int), s, i, a, b, t, p, q, f⟩ = l ++ m ++ numB a ++ [b, t, f] ++ beB 8 (zig p) ++ beB 8 (zig q) by rw [HIE.out]; simp)
    generalize numB a = ma at HCA HAP HAL HIE
    clear h1 hk
    go_wp2_with
    (at_builtin; refine wpList_append_lies _ (by rfl) _ _ _ (by rfl) w.heap.size 5 i0 (.int .u8 0) 1 1 Tryd.underlying40 hi0 hz0 hz1 hz2 (by rfl) (by decide) _ (List.length l) (vals l) (by rfl) HV.out ⟨gu, 0, none⟩ (List.length m) cu (vals m) (by rfl) (by rw [vals_len, Nat.mul_one]) HUN.out (one_vals m) HMP.out (by unfold maxLen; have := And.intro HL.out HML.out; omega) (by have := And.intro HL.out HML.out; omega) HW.out.size _ rfl ?_; intro ga ca w3 hown hgrow hat hlt5; replace HB := Lib.hid (blk_row' HB.out (by decide) HV.out hgrow); have HPU := Lib.hid (own_push (m := m) HW.out HW.out.size HV.out (Below.refl _ _) hown hgrow); replace HV := Lib.hid HPU.out.1; replace HW := Lib.hid HPU.out.2; clear hown hgrow hat hlt5 HPU HUN; have a0 : w3.cell? ⟨w.heap.size, 0, none⟩ = some (.int .i64 _) := HB.out.cell 0 rfl; have a3 : w3.cell? ⟨w.heap.size, 3, none⟩ = some (.int .i64 _) := HB.out.cell 3 rfl; have a4 : w3.cell? ⟨w.heap.size, 4, none⟩ = some (.int .i64 _) := HB.out.cell 4 rfl; have a5 : w3.cell? ⟨w.heap.size, 5, none⟩ = some (.int .i64 _) := HB.out.cell 5 rfl; have a6 : w3.cell? ⟨w.heap.size, 6, none⟩ = some (.int .i64 _) := HB.out.cell 6 rfl; have a7 : w3.cell? ⟨w.heap.size, 7, none⟩ = some (.int .i64 _) := HB.out.cell 7 rfl; have a8 : w3.cell? ⟨w.heap.size, 8, none⟩ = some (.int .i64 _) := HB.out.cell 8 rfl)
    refine (HCA.out _).mono ?_
    rintro e w4 ⟨u, rfl, hu, hb⟩
    clear a0 a3 a4 a5 a6 a7 a8
    replace HL := Lib.hid (show (l ++ m).length ≤ 13 from HIE2.out)
    clear HIE2 HMP HML HCN
    generalize l ++ m = l at HV HIE HL
    obtain ⟨gu, cu, rfl, -, -⟩ := World.ownsRow.form hu (show 0 < List.length ma from HAP.out)
    have HUN := Lib.hid (World.ownsRow.cells hu rfl)
    replace HV := Lib.hid (own_below HV.out hb)
    replace HB := Lib.hid (HB.out.below hb HB.out.lt)
    replace HW := Lib.hid (HW.out.trans (hb.mono HW.out.size))
    clear hu hb
    have a0 : w4.cell? ⟨w.heap.size, 0, none⟩ = some (.int .i64 _) := HB.out.cell 0 rfl
    have a3 : w4.cell? ⟨w.heap.size, 3, none⟩ = some (.int .i64 _) := HB.out.cell 3 rfl
    have a4 : w4.cell? ⟨w.heap.size, 4, none⟩ = some (.int .i64 _) := HB.out.cell 4 rfl
    have a5 : w4.cell? ⟨w.heap.size, 5, none⟩ = some (.int .i64 _) := HB.out.cell 5 rfl
    have a6 : w4.cell? ⟨w.heap.size, 6, none⟩ = some (.int .i64 _) := HB.out.cell 6 rfl
    have a7 : w4.cell? ⟨w.heap.size, 7, none⟩ = some (.int .i64 _) := HB.out.cell 7 rfl
    have a8 : w4.cell? ⟨w.heap.size, 8, none⟩ = some (.int .i64 _) := HB.out.cell 8 rfl
    have HLA := Lib.hid (show (l ++ ma).length ≤ 24 by have := HL.out; have := HAL.out; rw [List.length_append]; omega)
    go_wp2_with (first
    |
    (at_builtin; refine wpList_append_lies _ (by rfl) _ _ _ (by rfl) w.heap.size 5 i0 (.int .u8 0) 1 1 Tryd.underlying40 hi0 hz0 hz1 hz2 (by rfl) (by decide) _ (List.length l) (vals l) (by rfl) HV.out ⟨gu, 0, none⟩ (List.length ma) cu (vals ma) (by rfl) (by rw [vals_len, Nat.mul_one]) HUN.out (one_vals ma) HAP.out (by unfold maxLen; have := And.intro HL.out HAL.out; omega) (by have := And.intro HL.out HAL.out; omega) HW.out.size _ rfl ?_; intro ga ca w5 hown hgrow hat hlt5; replace HB := Lib.hid (blk_row' HB.out (by decide) HV.out hgrow); have HPU := Lib.hid (own_push (m := ma) HW.out HW.out.size HV.out (Below.refl _ _) hown hgrow); replace HV := Lib.hid HPU.out.1; replace HW := Lib.hid HPU.out.2; clear hown hgrow hat hlt5 HPU HUN; have a0 : w5.cell? ⟨w.heap.size, 0, none⟩ = some (.int .i64 _) := HB.out.cell 0 rfl; have a3 : w5.cell? ⟨w.heap.size, 3, none⟩ = some (.int .i64 _) := HB.out.cell 3 rfl; have a4 : w5.cell? ⟨w.heap.size, 4, none⟩ = some (.int .i64 _) := HB.out.cell 4 rfl; have a5 : w5.cell? ⟨w.heap.size, 5, none⟩ = some (.int .i64 _) := HB.out.cell 5 rfl; have a6 : w5.cell? ⟨w.heap.size, 6, none⟩ = some (.int .i64 _) := HB.out.cell 6 rfl; have a7 : w5.cell? ⟨w.heap.size, 7, none⟩ = some (.int .i64 _) := HB.out.cell 7 rfl; have a8 : w5.cell? ⟨w.heap.size, 8, none⟩ = some (.int .i64 _) := HB.out.cell 8 rfl)
    |
    (at_builtin; refine wpList_append_lies _ (by rfl) _ _ _ (by rfl) w.heap.size 5 i0 (.int .u8 0) 1 1 Tryd.underlying40 hi0 hz0 hz1 hz2 (by rfl) (by decide) _ (List.length (l ++ ma)) (vals (l ++ ma)) (by rfl) (World.ownsRow.alloc HV.out (.cells #[.int .u8 (b : Int), .int .u8 (t : Int), .int .u8 (f : Int)] 5)) ⟨w5.heap.size, 0, none⟩ 3 3 (vals [b, t, f]) (by rfl) (by rfl) (news_vals (Blk.new w5 #[.int .u8 (b : Int), .int .u8 (t : Int), .int .u8 (f : Int)] 5 w5.heap.size rfl)) (one_vals [b, t, f]) (by decide) (by unfold maxLen; have := HLA.out; omega) (by have := HLA.out; omega) (by have := HW.out.size; simp; omega) _ rfl ?_; intro ga ca w6 hown hgrow hat hlt5; replace HB := Lib.hid (blk_row' (HB.out.old (.cells #[.int .u8 (b : Int), .int .u8 (t : Int), .int .u8 (f : Int)] 5)) (by decide) (World.ownsRow.alloc HV.out (.cells #[.int .u8 (b : Int), .int .u8 (t : Int), .int .u8 (f : Int)] 5)) hgrow); have HPU := Lib.hid (own_push (m := [b, t, f]) HW.out HW.out.size HV.out ((Below.refl _ _).alloc (Nat.le_refl _) (.cells #[.int .u8 (b : Int), .int .u8 (t : Int), .int .u8 (f : Int)] 5)) hown hgrow); replace HV := Lib.hid HPU.out.1; replace HW := Lib.hid HPU.out.2; clear hown hgrow hat hlt5 HPU; have a0 : w6.cell? ⟨w.heap.size, 0, none⟩ = some (.int .i64 _) := HB.out.cell 0 rfl; have a3 : w6.cell? ⟨w.heap.size, 3, none⟩ = some (.int .i64 _) := HB.out.cell 3 rfl; have a4 : w6.cell? ⟨w.heap.size, 4, none⟩ = some (.int .i64 _) := HB.out.cell 4 rfl; have a5 : w6.cell? ⟨w.heap.size, 5, none⟩ = some (.int .i64 _) := HB.out.cell 5 rfl; have a6 : w6.cell? ⟨w.heap.size, 6, none⟩ = some (.int .i64 _) := HB.out.cell 6 rfl; have a7 : w6.cell? ⟨w.heap.size, 7, none⟩ = some (.int .i64 _) := HB.out.cell 7 rfl; have a8 : w6.cell? ⟨w.heap.size, 8, none⟩ = some (.int .i64 _) := HB.out.cell 8 rfl)
    )
    have HL2 := Lib.hid (show (l ++ ma ++ [b, t, f]).length ≤ 40 by have := HL.out; have := HAL.out; rw [List.length_append, List.length_append]; simp; omega)
    clear HL HLA
    have hv := HV.out
    simp only [List.length_append] at hv
    replace HV := Lib.hid hv
    clear hv
    generalize l ++ ma ++ [b, t, f] = l at HV HIE HL2
    have HL := HL2
    clear HL2
    have HP1 := Lib.hid (refint_any p hp0 hp1)
    have HQ1 := Lib.hid (refint_any q hq0 hq1)
    have HP8 := Lib.hid (beB_len 8 (zig p))
    have HQ8 := Lib.hid (beB_len 8 (zig q))
    generalize beB 8 (zig p) = mp at HP1 HP8 HIE
    generalize beB 8 (zig q) = mq at HQ1 HQ8 HIE
    have HLP := Lib.hid (show (l ++ mp).length ≤ 60 by have := HL.out; have := HP8.out; rw [List.length_append]; omega)
    refine (HP1.out _).mono ?_
    rintro e w6 ⟨u, rfl, hu, hb⟩
    clear a0 a3 a4 a5 a6 a7 a8
    obtain ⟨gu, cu, rfl, -, -⟩ := World.ownsRow.form hu (show 0 < List.length mp from (by have := HP8.out; omega))
    have HUN := Lib.hid (World.ownsRow.cells hu rfl)
    replace HV := Lib.hid (own_below HV.out hb)
    replace HB := Lib.hid (HB.out.below hb HB.out.lt)
    replace HW := Lib.hid (HW.out.trans (hb.mono HW.out.size))
    clear hu hb
    have a0 : w6.cell? ⟨w.heap.size, 0, none⟩ = some (.int .i64 _) := HB.out.cell 0 rfl
    have a3 : w6.cell? ⟨w.heap.size, 3, none⟩ = some (.int .i64 _) := HB.out.cell 3 rfl
    have a4 : w6.cell? ⟨w.heap.size, 4, none⟩ = some (.int .i64 _) := HB.out.cell 4 rfl
    have a5 : w6.cell? ⟨w.heap.size, 5, none⟩ = some (.int .i64 _) := HB.out.cell 5 rfl
    have a6 : w6.cell? ⟨w.heap.size, 6, none⟩ = some (.int .i64 _) := HB.out.cell 6 rfl
    have a7 : w6.cell? ⟨w.heap.size, 7, none⟩ = some (.int .i64 _) := HB.out.cell 7 rfl
    have a8 : w6.cell? ⟨w.heap.size, 8, none⟩ = some (.int .i64 _) := HB.out.cell 8 rfl
    go_wp2_with
    (at_builtin; refine wpList_append_lies _ (by rfl) _ _ _ (by rfl) w.heap.size 5 i0 (.int .u8 0) 1 1 Tryd.underlying40 hi0 hz0 hz1 hz2 (by rfl) (by decide) _ (List.length l) (vals l) (by rfl) HV.out ⟨gu, 0, none⟩ (List.length mp) cu (vals mp) (by rfl) (by rw [vals_len, Nat.mul_one]) HUN.out (one_vals mp) (by have := HP8.out; omega) (by unfold maxLen; have := And.intro HL.out HP8.out; omega) (by have := And.intro HL.out HP8.out; omega) HW.out.size _ rfl ?_; intro ga ca w7 hown hgrow hat hlt5; replace HB := Lib.hid (blk_row' HB.out (by decide) HV.out hgrow); have HPU := Lib.hid (own_push (m := mp) HW.out HW.out.size HV.out (Below.refl _ _) hown hgrow); replace HV := Lib.hid HPU.out.1; replace HW := Lib.hid HPU.out.2; clear hown hgrow hat hlt5 HPU HUN; have a0 : w7.cell? ⟨w.heap.size, 0, none⟩ = some (.int .i64 _) := HB.out.cell 0 rfl; have a3 : w7.cell? ⟨w.heap.size, 3, none⟩ = some (.int .i64 _) := HB.out.cell 3 rfl; have a4 : w7.cell? ⟨w.heap.size, 4, none⟩ = some (.int .i64 _) := HB.out.cell 4 rfl; have a5 : w7.cell? ⟨w.heap.size, 5, none⟩ = some (.int .i64 _) := HB.out.cell 5 rfl; have a6 : w7.cell? ⟨w.heap.size, 6, none⟩ = some (.int .i64 _) := HB.out.cell 6 rfl; have a7 : w7.cell? ⟨w.heap.size, 7, none⟩ = some (.int .i64 _) := HB.out.cell 7 rfl; have a8 : w7.cell? ⟨w.heap.size, 8, none⟩ = some (.int .i64 _) := HB.out.cell 8 rfl)
    refine (HQ1.out _).mono ?_
    rintro e w8 ⟨u, rfl, hu, hb⟩
    clear a0 a3 a4 a5 a6 a7 a8
    obtain ⟨gu, cu, rfl, -, -⟩ := World.ownsRow.form hu (show 0 < List.length mq from (by have := HQ8.out; omega))
    have HUN := Lib.hid (World.ownsRow.cells hu rfl)
    replace HV := Lib.hid (own_below HV.out hb)
    replace HB := Lib.hid (HB.out.below hb HB.out.lt)
    replace HW := Lib.hid (HW.out.trans (hb.mono HW.out.size))
    clear hu hb
    have a0 : w8.cell? ⟨w.heap.size, 0, none⟩ = some (.int .i64 _) := HB.out.cell 0 rfl
    have a3 : w8.cell? ⟨w.heap.size, 3, none⟩ = some (.int .i64 _) := HB.out.cell 3 rfl
    have a4 : w8.cell? ⟨w.heap.size, 4, none⟩ = some (.int .i64 _) := HB.out.cell 4 rfl
    have a5 : w8.cell? ⟨w.heap.size, 5, none⟩ = some (.int .i64 _) := HB.out.cell 5 rfl
    have a6 : w8.cell? ⟨w.heap.size, 6, none⟩ = some (.int .i64 _) := HB.out.cell 6 rfl
    have a7 : w8.cell? ⟨w.heap.size, 7, none⟩ = some (.int .i64 _) := HB.out.cell 7 rfl
    have a8 : w8.cell? ⟨w.heap.size, 8, none⟩ = some (.int .i64 _) := HB.out.cell 8 rfl
    go_wp2_with
    (at_builtin; refine wpList_append_lies _ (by rfl) _ _ _ (by rfl) w.heap.size 5 i0 (.int .u8 0) 1 1 Tryd.underlying40 hi0 hz0 hz1 hz2 (by rfl) (by decide) _ (List.length (l ++ mp)) (vals (l ++ mp)) (by rfl) HV.out ⟨gu, 0, none⟩ (List.length mq) cu (vals mq) (by rfl) (by rw [vals_len, Nat.mul_one]) HUN.out (one_vals mq) (by have := HQ8.out; omega) (by unfold maxLen; have := And.intro HLP.out HQ8.out; omega) (by have := And.intro HLP.out HQ8.out; omega) HW.out.size _ rfl ?_; intro ga ca w9 hown hgrow hat hlt5; replace HB := Lib.hid (blk_row' HB.out (by decide) HV.out hgrow); have HPU := Lib.hid (own_push (m := mq) HW.out HW.out.size HV.out (Below.refl _ _) hown hgrow); replace HV := Lib.hid HPU.out.1; replace HW := Lib.hid HPU.out.2; clear hown hgrow hat hlt5 HPU HUN; have a0 : w9.cell? ⟨w.heap.size, 0, none⟩ = some (.int .i64 _) := HB.out.cell 0 rfl; have a3 : w9.cell? ⟨w.heap.size, 3, none⟩ = some (.int .i64 _) := HB.out.cell 3 rfl; have a4 : w9.cell? ⟨w.heap.size, 4, none⟩ = some (.int .i64 _) := HB.out.cell 4 rfl; have a5 : w9.cell? ⟨w.heap.size, 5, none⟩ = some (.int .i64 _) := HB.out.cell 5 rfl; have a6 : w9.cell? ⟨w.heap.size, 6, none⟩ = some (.int .i64 _) := HB.out.cell 6 rfl; have a7 : w9.cell? ⟨w.heap.size, 7, none⟩ = some (.int .i64 _) := HB.out.cell 7 rfl; have a8 : w9.cell? ⟨w.heap.size, 8, none⟩ = some (.int .i64 _) := HB.out.cell 8 rfl)
    have hv := HV.out
    simp only [List.length_append] at hv
    go_ret
    exact ⟨_, rfl, by rw [HIE.out]; exact hv, HW.out⟩
  · have g1 : ((k : Int) == 1) = false := by simp; omega
    have n1 : ¬ (k : Int) = 1 := by omega
    by_cases hk2 : k = 2
    · subst hk2
      replace HIE := Lib.hid (show formC ⟨((2 : Nat) : Int), s, i, a, b, t, p, q, f⟩ = l ++ m by rw [HIE.out]; simp)
      clear h1 hk hk1 n1
      go_wp2_with
      (at_builtin; refine wpList_append_lies _ (by rfl) _ _ _ (by rfl) w.heap.size 5 i0 (.int .u8 0) 1 1 Tryd.underlying40 hi0 hz0 hz1 hz2 (by rfl) (by decide) _ (List.length l) (vals l) (by rfl) HV.out ⟨gu, 0, none⟩ (List.length m) cu (vals m) (by rfl) (by rw [vals_len, Nat.mul_one]) HUN.out (one_vals m) HMP.out (by unfold maxLen; have := And.intro HL.out HML.out; omega) (by have := And.intro HL.out HML.out; omega) HW.out.size _ rfl ?_; intro ga ca w3 hown hgrow hat hlt5; replace HB := Lib.hid (blk_row' HB.out (by decide) HV.out hgrow); have HPU := Lib.hid (own_push (m := m) HW.out HW.out.size HV.out (Below.refl _ _) hown hgrow); replace HV := Lib.hid HPU.out.1; replace HW := Lib.hid HPU.out.2; clear hown hgrow hat hlt5 HPU HUN; have a0 : w3.cell? ⟨w.heap.size, 0, none⟩ = some (.int .i64 _) := HB.out.cell 0 rfl; have a3 : w3.cell? ⟨w.heap.size, 3, none⟩ = some (.int .i64 _) := HB.out.cell 3 rfl; have a4 : w3.cell? ⟨w.heap.size, 4, none⟩ = some (.int .i64 _) := HB.out.cell 4 rfl; have a5 : w3.cell? ⟨w.heap.size, 5, none⟩ = some (.int .i64 _) := HB.out.cell 5 rfl; have a6 : w3.cell? ⟨w.heap.size, 6, none⟩ = some (.int .i64 _) := HB.out.cell 6 rfl; have a7 : w3.cell? ⟨w.heap.size, 7, none⟩ = some (.int .i64 _) := HB.out.cell 7 rfl; have a8 : w3.cell? ⟨w.heap.size, 8, none⟩ = some (.int .i64 _) := HB.out.cell 8 rfl)
      go_ret
      exact ⟨_, rfl, by rw [HIE.out]; exact HV.out, HW.out⟩
    · have g2 : ((k : Int) != 2) = true := by simp; omega
      have n2 : ¬ (k : Int) = 2 := by omega
      replace HIE := Lib.hid (show formC ⟨(k : Int), s, i, a, b, t, p, q, f⟩ = l ++ m ++ beB 8 (zig p) ++ beB 8 (zig q) by rw [HIE.out]; simp [n1, n2])
      clear h1 hk hk1 hk2 n1 n2
      go_wp2_with
      (at_builtin; refine wpList_append_lies _ (by rfl) _ _ _ (by rfl) w.heap.size 5 i0 (.int .u8 0) 1 1 Tryd.underlying40 hi0 hz0 hz1 hz2 (by rfl) (by decide) _ (List.length l) (vals l) (by rfl) HV.out ⟨gu, 0, none⟩ (List.length m) cu (vals m) (by rfl) (by rw [vals_len, Nat.mul_one]) HUN.out (one_vals m) HMP.out (by unfold maxLen; have := And.intro HL.out HML.out; omega) (by have := And.intro HL.out HML.out; omega) HW.out.size _ rfl ?_; intro ga ca w3 hown hgrow hat hlt5; replace HB := Lib.hid (blk_row' HB.out (by decide) HV.out hgrow); have HPU := Lib.hid (own_push (m := m) HW.out HW.out.size HV.out (Below.refl _ _) hown hgrow); replace HV := Lib.hid HPU.out.1; replace HW := Lib.hid HPU.out.2; clear hown hgrow hat hlt5 HPU HUN; have a0 : w3.cell? ⟨w.heap.size, 0, none⟩ = some (.int .i64 _) := HB.out.cell 0 rfl; have a3 : w3.cell? ⟨w.heap.size, 3, none⟩ = some (.int .i64 _) := HB.out.cell 3 rfl; have a4 : w3.cell? ⟨w.heap.size, 4, none⟩ = some (.int .i64 _) := HB.out.cell 4 rfl; have a5 : w3.cell? ⟨w.heap.size, 5, none⟩ = some (.int .i64 _) := HB.out.cell 5 rfl; have a6 : w3.cell? ⟨w.heap.size, 6, none⟩ = some (.int .i64 _) := HB.out.cell 6 rfl; have a7 : w3.cell? ⟨w.heap.size, 7, none⟩ = some (.int .i64 _) := HB.out.cell 7 rfl; have a8 : w3.cell? ⟨w.heap.size, 8, none⟩ = some (.int .i64 _) := HB.out.cell 8 rfl)
      replace HL := Lib.hid (show (l ++ m).length ≤ 40 by have := HIE2.out; omega)
      clear HIE2 HMP HML HCN
      generalize l ++ m = l at HV HIE HL
      have HP1 := Lib.hid (refint_any p hp0 hp1)
      have HQ1 := Lib.hid (refint_any q hq0 hq1)
      have HP8 := Lib.hid (beB_len 8 (zig p))
      have HQ8 := Lib.hid (beB_len 8 (zig q))
      generalize beB 8 (zig p) = mp at HP1 HP8 HIE
      generalize beB 8 (zig q) = mq at HQ1 HQ8 HIE
      have HLP := Lib.hid (show (l ++ mp).length ≤ 60 by have := HL.out; have := HP8.out; rw [List.length_append]; omega)
      refine (HP1.out _).mono ?_
      rintro e w6 ⟨u, rfl, hu, hb⟩
      clear a0 a3 a4 a5 a6 a7 a8
      obtain ⟨gu, cu, rfl, -, -⟩ := World.ownsRow.form hu (show 0 < List.length mp from (by have := HP8.out; omega))
      have HUN := Lib.hid (World.ownsRow.cells hu rfl)
      replace HV := Lib.hid (own_below HV.out hb)
      replace HB := Lib.hid (HB.out.below hb HB.out.lt)
      replace HW := Lib.hid (HW.out.trans (hb.mono HW.out.size))
      clear hu hb
      have a0 : w6.cell? ⟨w.heap.size, 0, none⟩ = some (.int .i64 _) := HB.out.cell 0 rfl
      have a3 : w6.cell? ⟨w.heap.size, 3, none⟩ = some (.int .i64 _) := HB.out.cell 3 rfl
      have a4 : w6.cell? ⟨w.heap.size, 4, none⟩ = some (.int .i64 _) := HB.out.cell 4 rfl
      have a5 : w6.cell? ⟨w.heap.size, 5, none⟩ = some (.int .i64 _) := HB.out.cell 5 rfl
      have a6 : w6.cell? ⟨w.heap.size, 6, none⟩ = some (.int .i64 _) := HB.out.cell 6 rfl
      have a7 : w6.cell? ⟨w.heap.size, 7, none⟩ = some (.int .i64 _) := HB.out.cell 7 rfl
      have a8 : w6.cell? ⟨w.heap.size, 8, none⟩ = some (.int .i64 _) := HB.out.cell 8 rfl
      go_wp2_with
      (at_builtin; refine wpList_append_lies _ (by rfl) _ _ _ (by rfl) w.heap.size 5 i0 (.int .u8 0) 1 1 Tryd.underlying40 hi0 hz0 hz1 hz2 (by rfl) (by decide) _ (List.length l) (vals l) (by rfl) HV.out ⟨gu, 0, none⟩ (List.length mp) cu (vals mp) (by rfl) (by rw [vals_len, Nat.mul_one]) HUN.out (one_vals mp) (by have := HP8.out; omega) (by unfold maxLen; have := And.intro HL.out HP8.out; omega) (by have := And.intro HL.out HP8.out; omega) HW.out.size _ rfl ?_; intro ga ca w7 hown hgrow hat hlt5; replace HB := Lib.hid (blk_row' HB.out (by decide) HV.out hgrow); have HPU := Lib.hid (own_push (m := mp) HW.out HW.out.size HV.out (Below.refl _ _) hown hgrow); replace HV := Lib.hid HPU.out.1; replace HW := Lib.hid HPU.out.2; clear hown hgrow hat hlt5 HPU HUN; have a0 : w7.cell? ⟨w.heap.size, 0, none⟩ = some (.int .i64 _) := HB.out.cell 0 rfl; have a3 : w7.cell? ⟨w.heap.size, 3, none⟩ = some (.int .i64 _) := HB.out.cell 3 rfl; have a4 : w7.cell? ⟨w.heap.size, 4, none⟩ = some (.int .i64 _) := HB.out.cell 4 rfl; have a5 : w7.cell? ⟨w.heap.size, 5, none⟩ = some (.int .i64 _) := HB.out.cell 5 rfl; have a6 : w7.cell? ⟨w.heap.size, 6, none⟩ = some (.int .i64 _) := HB.out.cell 6 rfl; have a7 : w7.cell? ⟨w.heap.size, 7, none⟩ = some (.int .i64 _) := HB.out.cell 7 rfl; have a8 : w7.cell? ⟨w.heap.size, 8, none⟩ = some (.int .i64 _) := HB.out.cell 8 rfl)
      refine (HQ1.out _).mono ?_
      rintro e w8 ⟨u, rfl, hu, hb⟩
      clear a0 a3 a4 a5 a6 a7 a8
      obtain ⟨gu, cu, rfl, -, -⟩ := World.ownsRow.form hu (show 0 < List.length mq from (by have := HQ8.out; omega))
      have HUN := Lib.hid (World.ownsRow.cells hu rfl)
      replace HV := Lib.hid (own_below HV.out hb)
      replace HB := Lib.hid (HB.out.below hb HB.out.lt)
      replace HW := Lib.hid (HW.out.trans (hb.mono HW.out.size))
      clear hu hb
      have a0 : w8.cell? ⟨w.heap.size, 0, none⟩ = some (.int .i64 _) := HB.out.cell 0 rfl
      have a3 : w8.cell? ⟨w.heap.size, 3, none⟩ = some (.int .i64 _) := HB.out.cell 3 rfl
      have a4 : w8.cell? ⟨w.heap.size, 4, none⟩ = some (.int .i64 _) := HB.out.cell 4 rfl
      have a5 : w8.cell? ⟨w.heap.size, 5, none⟩ = some (.int .i64 _) := HB.out.cell 5 rfl
      have a6 : w8.cell? ⟨w.heap.size, 6, none⟩ = some (.int .i64 _) := HB.out.cell 6 rfl
      have a7 : w8.cell? ⟨w.heap.size, 7, none⟩ = some (.int .i64 _) := HB.out.cell 7 rfl
      have a8 : w8.cell? ⟨w.heap.size, 8, none⟩ = some (.int .i64 _) := HB.out.cell 8 rfl
      go_wp2_with
      (at_builtin; refine wpList_append_lies _ (by rfl) _ _ _ (by rfl) w.heap.size 5 i0 (.int .u8 0) 1 1 Tryd.underlying40 hi0 hz0 hz1 hz2 (by rfl) (by decide) _ (List.length (l ++ mp)) (vals (l ++ mp)) (by rfl) HV.out ⟨gu, 0, none⟩ (List.length mq) cu (vals mq) (by rfl) (by rw [vals_len, Nat.mul_one]) HUN.out (one_vals mq) (by have := HQ8.out; omega) (by unfold maxLen; have := And.intro HLP.out HQ8.out; omega) (by have := And.intro HLP.out HQ8.out; omega) HW.out.size _ rfl ?_; intro ga ca w9 hown hgrow hat hlt5; replace HB := Lib.hid (blk_row' HB.out (by decide) HV.out hgrow); have HPU := Lib.hid (own_push (m := mq) HW.out HW.out.size HV.out (Below.refl _ _) hown hgrow); replace HV := Lib.hid HPU.out.1; replace HW := Lib.hid HPU.out.2; clear hown hgrow hat hlt5 HPU HUN; have a0 : w9.cell? ⟨w.heap.size, 0, none⟩ = some (.int .i64 _) := HB.out.cell 0 rfl; have a3 : w9.cell? ⟨w.heap.size, 3, none⟩ = some (.int .i64 _) := HB.out.cell 3 rfl; have a4 : w9.cell? ⟨w.heap.size, 4, none⟩ = some (.int .i64 _) := HB.out.cell 4 rfl; have a5 : w9.cell? ⟨w.heap.size, 5, none⟩ = some (.int .i64 _) := HB.out.cell 5 rfl; have a6 : w9.cell? ⟨w.heap.size, 6, none⟩ = some (.int .i64 _) := HB.out.cell 6 rfl; have a7 : w9.cell? ⟨w.heap.size, 7, none⟩ = some (.int .i64 _) := HB.out.cell 7 rfl; have a8 : w9.cell? ⟨w.heap.size, 8, none⟩ = some (.int .i64 _) := HB.out.cell 8 rfl)
      have hv := HV.out
      simp only [List.length_append] at hv
      go_ret
      exact ⟨_, rfl, by rw [HIE.out]; exact hv, HW.out⟩

/-- The document's encoder. -/
theorem rencode_any (c : Cmd) (w : World) (hp0 : -9223372036854775808 ≤ c.p) (hp1 : c.p ≤ 9223372036854775807) (hq0 : -9223372036854775808 ≤ c.q) (hq1 : c.q ≤ 9223372036854775807) :
    Calls Tryd.prog 187 #[.agg c.cells] w (EncIs c w) := by
  have HW := Lib.hid (show Below w.heap.size w (w.alloc (.cells c.cells 164)) from (Below.refl _ _).alloc (Nat.le_refl _) _)
  have HRC := Lib.hid (rright_any c)
  have HFC := Lib.hid (fun W hr => form_any c W hr hp0 hp1 hq0 hq1)
  cases hr : rightC c with
  | false =>
    have HF := Lib.hid hr
    rw [hr] at HRC
    obtain ⟨k, s, i, a, b, t, p, q, f⟩ := c
    unfold Cmd.cells at *
    clear hr
    go_enter Tryd.func187, Tryd.ntmps187
    go_wp2_with fail
    refine (HRC.out _).mono ?_
    rintro e w1 ⟨rfl, hb1⟩
    go_wp2_with fail
    go_ret2
    exact .inr ⟨HF.out, rfl, HW.out.trans (hb1.mono (by simp))⟩
  | true =>
    have HF := Lib.hid hr
    rw [hr] at HRC
    have HB := Lib.hid (Blk.new w c.cells 164 w.heap.size rfl)
    obtain ⟨k, s, i, a, b, t, p, q, f⟩ := c
    unfold Cmd.cells at *
    clear hr
    go_enter Tryd.func187, Tryd.ntmps187
    go_wp2_with fail
    refine (HRC.out _).mono ?_
    rintro e w1 ⟨rfl, hb1⟩
    replace HB := Lib.hid (HB.out.below hb1 HB.out.lt)
    replace HW := Lib.hid (HW.out.trans (hb1.mono (by simp)))
    clear hb1
    go_wp2_with (refine load_blk rfl 164 _ rfl _ rfl _ _ HB.out _ Tryd.underlying164 rfl (by kernel_rfl) ?_)
    refine (HFC.out _ HF.out).mono ?_
    rintro e w2 ⟨v, rfl, hv, hb⟩
    go_wp2_with fail
    go_ret2
    exact .inl ⟨HF.out, _, rfl, own_mono hv HW.out.size, HW.out.trans (hb.mono HW.out.size)⟩
end Go.Proofs.YtmkcooamgojbpaaDoor.Cmds

/- script.Of and the document's. -/
namespace Go.Proofs.YtmkcooamgojbpaaDoor.Cmds
set_option linter.unusedVariables false
open Go.RowKit Go.Proofs.YtmkcooamgojbpaaDoor.Kit Go.Proofs.YtmkcooamgojbpaaDoor.Blk Go.Proofs.YtmkcooamgojbpaaDoor.Octets Go.Proofs.YtmkcooamgojbpaaDoor.Blk
attribute [local go_sem ↓] Go.wp_at_zero Go.wp_at_succ

def stepC (k y v : Int) (u : Value) : Array Value := #[.int .i64 k, .int .i64 y, .int .i64 v, u]
theorem one_step (k y v : Int) (a : Option Addr) (n c : Nat) : ∀ u ∈ (stepC k y v (.slice a n c)).toList, u.oneCell' = true := by
  simp [stepC, Value.oneCell']
/-- The step that a command gives. -/
def OfIs (c : Cmd) (w : World) (e : Ending) (w' : World) : Prop :=
  (rightC c = true ∧ ∃ v, e = .returned (.tuple #[.agg (stepC 1 0 0 v), .int .i64 0]) ∧ Own w.heap.size (formC c) v w' ∧ Below w.heap.size w w') ∨
  (rightC c = false ∧ e = .returned (.tuple #[.agg (stepC 0 0 0 (.slice none 0 0)), .int .i64 1]) ∧ Below w.heap.size w w')

theorem own_set {N B : Nat} {l : List Nat} {v : Value} {W : World} (h : Own N l v W) (hne : v.ownBlock ≠ some B) (j : Nat) (u : Value) : Own N l v (W.setCell ⟨B, j, none⟩ u) :=
  h.kept (grown_cell W B j u) (.inr hne)

set_option maxRecDepth 20000 in
set_option maxHeartbeats 4000000 in
theorem of_any (c : Cmd) (w : World) (hp0 : -9223372036854775808 ≤ c.p) (hp1 : c.p ≤ 9223372036854775807) (hq0 : -9223372036854775808 ≤ c.q) (hq1 : c.q ≤ 9223372036854775807) :
    Calls Tryd.prog 185 #[.agg c.cells] w (OfIs c w) := by
  have HB := Lib.hid (Blk.new w c.cells 164 w.heap.size rfl)
  have HC := Lib.hid (fun W => encode_any c W hp0 hp1 hq0 hq1)
  have HR := Lib.hid (Blk.new (w.alloc (.cells c.cells 164)) (stepC 0 0 0 (.slice none 0 0)) 42 (w.heap.size + 1) (by simp))
  have HW := Lib.hid (show Below w.heap.size w ((w.alloc (.cells c.cells 164)).alloc (.cells (stepC 0 0 0 (.slice none 0 0)) 42)) from ((Below.refl _ _).alloc (Nat.le_refl _) _).alloc (by simp) _)
  obtain ⟨k, s, i, a, b, t, p, q, f⟩ := c
  unfold Cmd.cells at *
  go_enter Tryd.func185, Tryd.ntmps185
  go_wp2_with fail
  refine (HC.out _).mono ?_
  rintro e w1 (⟨hr, v, rfl, hv, hb⟩ | ⟨hr, rfl, hb⟩)
  · obtain ⟨g, cap, rfl, -, -⟩ := World.ownsRow.form hv (by simp [formC])
    replace HR := Lib.hid (HR.out.below hb HR.out.lt)
    replace HW := Lib.hid (HW.out.trans (hb.mono (by simp; omega)))
    have HF := Lib.hid hr
    have HO := Lib.hid (own_mono hv (N := w.heap.size) (by simp; omega))
    have HO2 := Lib.hid (show ((w.alloc (.cells #[.int .i64 k, .int .i64 s, .int .i64 i, .int .i64 a, .int .i64 b, .int .i64 t, .int .i64 p, .int .i64 q, .int .i64 f] 164)).alloc (.cells (stepC 0 0 0 (.slice none 0 0)) 42)).heap.size ≤ g from (World.ownsRow.lt hv g rfl).1)
    clear hr hv hb
    generalize hl : (formC ⟨k, s, i, a, b, t, p, q, f⟩) = l at HO ⊢
    have HLE := Lib.hid hl
    clear hl
    have c0 : w1.cell? ⟨w.heap.size + 1, 0, none⟩ = some (.int .i64 0) := HR.out.cell 0 rfl
    have c1 : w1.cell? ⟨w.heap.size + 1, 1, none⟩ = some (.int .i64 0) := HR.out.cell 1 rfl
    have c2 : w1.cell? ⟨w.heap.size + 1, 2, none⟩ = some (.int .i64 0) := HR.out.cell 2 rfl
    have c3 : w1.cell? ⟨w.heap.size + 1, 3, none⟩ = some (.slice none 0 0) := HR.out.cell 3 rfl
    have f0 : w1.frozen? ⟨w.heap.size + 1, 0, none⟩ = false := HR.out.free 0
    have f1 : w1.frozen? ⟨w.heap.size + 1, 1, none⟩ = false := HR.out.free 1
    have f2 : w1.frozen? ⟨w.heap.size + 1, 2, none⟩ = false := HR.out.free 2
    have f3 : w1.frozen? ⟨w.heap.size + 1, 3, none⟩ = false := HR.out.free 3
    go_wp2_with fail
    have hx := HR.out.setCells (stepC 1 0 0 (.slice (some ⟨g, 0, none⟩) l.length cap)) rfl
    have hw := Blk.Below.setCells (stepC 1 0 0 (.slice (some ⟨g, 0, none⟩) l.length cap)).toList 0 _ HW.out (B := w.heap.size + 1) (by omega)
    have hg : (Value.slice (some ⟨g, 0, none⟩) l.length cap).ownBlock ≠ some (w.heap.size + 1) := by
      intro e
      have e' : some g = some (w.heap.size + 1) := e
      injection e' with e'
      have := HO2.out
      simp at this
      omega
    refine bodyPost_ret (results_blk_tmp rfl rfl hx Tryd.underlying42 rfl (by kernel_rfl)) rfl ?_
    exact .inl ⟨HF.out, _, rfl, by rw [HLE.out]; exact own_set (own_set (own_set (own_set HO.out hg 0 _) hg 1 _) hg 2 _) hg 3 _, hw⟩
  · replace HR := Lib.hid (HR.out.below hb HR.out.lt)
    replace HW := Lib.hid (HW.out.trans (hb.mono (by simp; omega)))
    have HF := Lib.hid hr
    clear hr hb
    have c0 : w1.cell? ⟨w.heap.size + 1, 0, none⟩ = some (.int .i64 0) := HR.out.cell 0 rfl
    have c1 : w1.cell? ⟨w.heap.size + 1, 1, none⟩ = some (.int .i64 0) := HR.out.cell 1 rfl
    have c2 : w1.cell? ⟨w.heap.size + 1, 2, none⟩ = some (.int .i64 0) := HR.out.cell 2 rfl
    have c3 : w1.cell? ⟨w.heap.size + 1, 3, none⟩ = some (.slice none 0 0) := HR.out.cell 3 rfl
    have f0 : w1.frozen? ⟨w.heap.size + 1, 0, none⟩ = false := HR.out.free 0
    have f1 : w1.frozen? ⟨w.heap.size + 1, 1, none⟩ = false := HR.out.free 1
    have f2 : w1.frozen? ⟨w.heap.size + 1, 2, none⟩ = false := HR.out.free 2
    have f3 : w1.frozen? ⟨w.heap.size + 1, 3, none⟩ = false := HR.out.free 3
    go_wp2_with fail
    have hx := HR.out.setCells (stepC 0 0 0 (.slice none 0 0)) rfl
    have hw := Blk.Below.setCells (stepC 0 0 0 (.slice none 0 0)).toList 0 _ HW.out (B := w.heap.size + 1) (by omega)
    refine bodyPost_ret (results_blk_tmp rfl rfl hx Tryd.underlying42 rfl (by kernel_rfl)) rfl ?_
    exact .inr ⟨HF.out, rfl, hw⟩

set_option maxRecDepth 20000 in
set_option maxHeartbeats 4000000 in
theorem rof_any (c : Cmd) (w : World) (hp0 : -9223372036854775808 ≤ c.p) (hp1 : c.p ≤ 9223372036854775807) (hq0 : -9223372036854775808 ≤ c.q) (hq1 : c.q ≤ 9223372036854775807) :
    Calls Tryd.prog 142 #[.agg c.cells] w (OfIs c w) := by
  have HB := Lib.hid (Blk.new w c.cells 164 w.heap.size rfl)
  have HC := Lib.hid (fun W => rencode_any c W hp0 hp1 hq0 hq1)
  have HR := Lib.hid (Blk.new (w.alloc (.cells c.cells 164)) (stepC 0 0 0 (.slice none 0 0)) 42 (w.heap.size + 1) (by simp))
  have HW := Lib.hid (show Below w.heap.size w ((w.alloc (.cells c.cells 164)).alloc (.cells (stepC 0 0 0 (.slice none 0 0)) 42)) from ((Below.refl _ _).alloc (Nat.le_refl _) _).alloc (by simp) _)
  obtain ⟨k, s, i, a, b, t, p, q, f⟩ := c
  unfold Cmd.cells at *
  go_enter Tryd.func142, Tryd.ntmps142
  go_wp2_with fail
  refine (HC.out _).mono ?_
  rintro e w1 (⟨hr, v, rfl, hv, hb⟩ | ⟨hr, rfl, hb⟩)
  · obtain ⟨g, cap, rfl, -, -⟩ := World.ownsRow.form hv (by simp [formC])
    replace HR := Lib.hid (HR.out.below hb HR.out.lt)
    replace HW := Lib.hid (HW.out.trans (hb.mono (by simp; omega)))
    have HF := Lib.hid hr
    have HO := Lib.hid (own_mono hv (N := w.heap.size) (by simp; omega))
    have HO2 := Lib.hid (show ((w.alloc (.cells #[.int .i64 k, .int .i64 s, .int .i64 i, .int .i64 a, .int .i64 b, .int .i64 t, .int .i64 p, .int .i64 q, .int .i64 f] 164)).alloc (.cells (stepC 0 0 0 (.slice none 0 0)) 42)).heap.size ≤ g from (World.ownsRow.lt hv g rfl).1)
    clear hr hv hb
    generalize hl : (formC ⟨k, s, i, a, b, t, p, q, f⟩) = l at HO ⊢
    have HLE := Lib.hid hl
    clear hl
    have c0 : w1.cell? ⟨w.heap.size + 1, 0, none⟩ = some (.int .i64 0) := HR.out.cell 0 rfl
    have c1 : w1.cell? ⟨w.heap.size + 1, 1, none⟩ = some (.int .i64 0) := HR.out.cell 1 rfl
    have c2 : w1.cell? ⟨w.heap.size + 1, 2, none⟩ = some (.int .i64 0) := HR.out.cell 2 rfl
    have c3 : w1.cell? ⟨w.heap.size + 1, 3, none⟩ = some (.slice none 0 0) := HR.out.cell 3 rfl
    have f0 : w1.frozen? ⟨w.heap.size + 1, 0, none⟩ = false := HR.out.free 0
    have f1 : w1.frozen? ⟨w.heap.size + 1, 1, none⟩ = false := HR.out.free 1
    have f2 : w1.frozen? ⟨w.heap.size + 1, 2, none⟩ = false := HR.out.free 2
    have f3 : w1.frozen? ⟨w.heap.size + 1, 3, none⟩ = false := HR.out.free 3
    go_wp2_with fail
    have hx := HR.out.setCells (stepC 1 0 0 (.slice (some ⟨g, 0, none⟩) l.length cap)) rfl
    have hw := Blk.Below.setCells (stepC 1 0 0 (.slice (some ⟨g, 0, none⟩) l.length cap)).toList 0 _ HW.out (B := w.heap.size + 1) (by omega)
    have hg : (Value.slice (some ⟨g, 0, none⟩) l.length cap).ownBlock ≠ some (w.heap.size + 1) := by
      intro e
      have e' : some g = some (w.heap.size + 1) := e
      injection e' with e'
      have := HO2.out
      simp at this
      omega
    refine bodyPost_ret (results_blk_tmp rfl rfl hx Tryd.underlying42 rfl (by kernel_rfl)) rfl ?_
    exact .inl ⟨HF.out, _, rfl, by rw [HLE.out]; exact own_set (own_set (own_set (own_set HO.out hg 0 _) hg 1 _) hg 2 _) hg 3 _, hw⟩
  · replace HR := Lib.hid (HR.out.below hb HR.out.lt)
    replace HW := Lib.hid (HW.out.trans (hb.mono (by simp; omega)))
    have HF := Lib.hid hr
    clear hr hb
    have c0 : w1.cell? ⟨w.heap.size + 1, 0, none⟩ = some (.int .i64 0) := HR.out.cell 0 rfl
    have c1 : w1.cell? ⟨w.heap.size + 1, 1, none⟩ = some (.int .i64 0) := HR.out.cell 1 rfl
    have c2 : w1.cell? ⟨w.heap.size + 1, 2, none⟩ = some (.int .i64 0) := HR.out.cell 2 rfl
    have c3 : w1.cell? ⟨w.heap.size + 1, 3, none⟩ = some (.slice none 0 0) := HR.out.cell 3 rfl
    have f0 : w1.frozen? ⟨w.heap.size + 1, 0, none⟩ = false := HR.out.free 0
    have f1 : w1.frozen? ⟨w.heap.size + 1, 1, none⟩ = false := HR.out.free 1
    have f2 : w1.frozen? ⟨w.heap.size + 1, 2, none⟩ = false := HR.out.free 2
    have f3 : w1.frozen? ⟨w.heap.size + 1, 3, none⟩ = false := HR.out.free 3
    go_wp2_with fail
    have hx := HR.out.setCells (stepC 0 0 0 (.slice none 0 0)) rfl
    have hw := Blk.Below.setCells (stepC 0 0 0 (.slice none 0 0)).toList 0 _ HW.out (B := w.heap.size + 1) (by omega)
    refine bodyPost_ret (results_blk_tmp rfl rfl hx Tryd.underlying42 rfl (by kernel_rfl)) rfl ?_
    exact .inr ⟨HF.out, rfl, hw⟩
end Go.Proofs.YtmkcooamgojbpaaDoor.Cmds

/- Rows of steps; damperref29.Same. -/
namespace Go.Proofs.YtmkcooamgojbpaaDoor.Steps
set_option linter.unusedVariables false
open Go.RowKit Go.Proofs.YtmkcooamgojbpaaDoor.Kit Go.Proofs.YtmkcooamgojbpaaDoor.Blk Go.Proofs.YtmkcooamgojbpaaDoor.Octets Go.Proofs.YtmkcooamgojbpaaDoor.Cmds
attribute [local go_sem ↓] Go.wp_at_zero Go.wp_at_succ

/-- A step: three numbers and bytes (none: nil). -/
structure Stp where
  k : Int
  y : Int
  v : Int
  l : List Nat
def BytesOf (N : Nat) (l : List Nat) (u : Value) (W : World) : Prop := (l = [] ∧ u = .slice none 0 0) ∨ (0 < l.length ∧ Own N l u W)
def flat : List (Stp × Value) → List Value
  | [] => []
  | (s, u) :: r => .int .i64 s.k :: .int .i64 s.y :: .int .i64 s.v :: u :: flat r
theorem flat_len (r : List (Stp × Value)) : (flat r).length = r.length * 4 := by
  induction r with
  | nil => rfl
  | cons x r ih => obtain ⟨s, u⟩ := x; simp [flat, ih]; omega
theorem flat_app (r t : List (Stp × Value)) : flat (r ++ t) = flat r ++ flat t := by
  induction r with
  | nil => rfl
  | cons x r ih => obtain ⟨s, u⟩ := x; simp [flat, ih]
theorem flat_at (r : List (Stp × Value)) (i : Nat) (h : i < r.length) : (flat r)[i * 4]? = some (.int .i64 r[i].1.k) ∧ (flat r)[i * 4 + 1]? = some (.int .i64 r[i].1.y) ∧ (flat r)[i * 4 + 2]? = some (.int .i64 r[i].1.v) ∧ (flat r)[i * 4 + 3]? = some r[i].2 := by
  induction r generalizing i with
  | nil => exact absurd h (by simp)
  | cons x r ih =>
    obtain ⟨s, u⟩ := x
    cases i with
    | zero => exact ⟨rfl, rfl, rfl, rfl⟩
    | succ i =>
      have h' := ih i (by simpa using h)
      rw [show (i + 1) * 4 = i * 4 + 1 + 1 + 1 + 1 by omega, show i * 4 + 1 + 1 + 1 + 1 + 1 = (i * 4 + 1) + 1 + 1 + 1 + 1 by omega]
      simpa [flat] using h'
/-- A row of steps, each with bytes of its own. -/
def Row (N : Nat) (v : Value) (ss : List Stp) (W : World) : Prop :=
  ∃ r : List (Stp × Value), r.map (·.1) = ss ∧ W.ownsRow N 42 4 v r.length (flat r) ∧ ∀ x ∈ r, BytesOf N x.1.l x.2 W

set_option maxRecDepth 20000 in
set_option maxHeartbeats 4000000 in
theorem same_steps (N M : Nat) (ss : List Stp) (h0 : 0 < ss.length) (hl : ss.length ≤ 1000) (v u : Value) (w : World) (hv : Row N v ss w) (hu : Row M u ss w) :
    Calls Tryd.prog 38 #[v, u] w fun e w' => e = .returned (.bool true) ∧ Below w.heap.size w w' ∧ w'.heap = w.heap := by
  obtain ⟨r, hr, hrow, hb⟩ := hv
  obtain ⟨r2, hr2, hrow2, hb2⟩ := hu
  have hn : r.length = ss.length := by rw [← hr, List.length_map]
  have hn2 : r2.length = ss.length := by rw [← hr2, List.length_map]
  obtain ⟨g, cap, rfl, -, -⟩ := World.ownsRow.form hrow (by omega)
  obtain ⟨g2, cap2, rfl, -, -⟩ := World.ownsRow.form hrow2 (by omega)
  have HC := Lib.hid (World.ownsRow.cells hrow rfl)
  have HC2 := Lib.hid (World.ownsRow.cells hrow2 rfl)
  rw [hn, hn2]
  clear hrow hrow2
  go_enter Tryd.func38, Tryd.ntmps38
  go_wp2_with fail
  go_loopw [5] (fun i wr => ∃ k : Nat, k ≤ ss.length ∧ i = .int .i64 k ∧ Below w.heap.size w wr ∧ wr.heap = w.heap) (fun i _ => ss.length - (intOf i).toNat)
  case atStart => exact ⟨0, by omega, rfl, Below.refl _ _, rfl⟩
  case round =>
    obtain ⟨k, hk, rfl, hbw, hwr⟩ := hrel
    by_cases hlt : k < ss.length
    · have hk1 : k < r.length := by omega
      have hk2 : k < r2.length := by omega
      have e1 : r[k].1 = ss[k] := by simp [← hr]
      have e2 : r2[k].1 = ss[k] := by simp [← hr2]
      have hx := hb r[k] (List.getElem_mem hk1)
      have hy := hb2 r2[k] (List.getElem_mem hk2)
      obtain ⟨a0, a1, a2, a3⟩ := flat_at r k hk1
      obtain ⟨b0, b1, b2, b3⟩ := flat_at r2 k hk2
      rw [e1] at hx a0 a1 a2
      rw [e2] at hy b0 b1 b2
      have c0 := HC.out _ _ a0
      have c1 := HC.out _ _ a1
      have c2 := HC.out _ _ a2
      have c3 := HC.out _ _ a3
      have d0 := HC2.out _ _ b0
      have d1 := HC2.out _ _ b1
      have d2 := HC2.out _ _ b2
      have d3 := HC2.out _ _ b3
      rw [Addr.add_mid, Nat.zero_add] at c0 c1 c2 c3 d0 d1 d2 d3
      have hcell : ∀ p, w.cell? p = wr.cell? p := fun p => by simp [World.cell?, hwr]
      rw [hcell] at c0 c1 c2 c3 d0 d1 d2 d3
      clear hcell
      clear HC HC2 a0 a1 a2 a3 b0 b1 b2 b3 hb hb2 e1 e2
      generalize r[k].2 = x at hx c3
      generalize r2[k].2 = y at hy d3
      generalize ss[k] = s at hx hy c0 c1 c2 d0 d1 d2
      have HS := Lib.hid (show ∀ W, W.heap = w.heap → Calls Tryd.prog 97 #[x, y] W fun e w' => e = .returned (.bool true) ∧ w' = W from fun W hW => by
        refine Calls.mono (R := fun e w' => e = .returned (.bool true) ∧ W = w') ?_ (fun _ _ ⟨h, h'⟩ => ⟨h, h'.symm⟩)
        rcases hx with ⟨h1, rfl⟩ | ⟨h1, hx⟩
        · rcases hy with ⟨_, rfl⟩ | ⟨h2, _⟩
          · exact same_nil W
          · rw [h1] at h2; exact absurd h2 (by simp)
        · rcases hy with ⟨h2, _⟩ | ⟨_, hy⟩
          · rw [h2] at h1; exact absurd h1 (by simp)
          · exact same_any N M s.l h1 x y W (by unfold Own World.ownsRow at hx ⊢; rw [hW]; exact hx) (by unfold Own World.ownsRow at hy ⊢; rw [hW]; exact hy))
      clear hx hy hr hr2
      go_wp2_with fail
      have HH := Lib.hid hwr
      have HBW := Lib.hid hbw
      clear hwr hbw
      go_quiet ((go_at_call 97; exact Calls.quiet_of_same (HS.out _ HH.out)))
      replace HH := Lib.hid (show (wr.drewN nq).heap = w.heap from HH.out)
      replace HBW := Lib.hid (below_drewN HBW.out nq)
      generalize wr.drewN nq = w2 at HH HBW ⊢
      go_wp2_with fail
      go_roundw
      case rel => exact ⟨k + 1, by omega, by go_num, HBW.out, HH.out⟩
      case measure => simp [intOf]; omega
    · go_wp2_with fail
      go_ret
      exact ⟨rfl, hbw, hwr⟩
end Go.Proofs.YtmkcooamgojbpaaDoor.Steps

/- Rows of steps: what appending keeps. -/
namespace Go.Proofs.YtmkcooamgojbpaaDoor.Steps
open Go.RowKit Go.Proofs.YtmkcooamgojbpaaDoor.Kit Go.Proofs.YtmkcooamgojbpaaDoor.Blk Go.Proofs.YtmkcooamgojbpaaDoor.Octets Go.Proofs.YtmkcooamgojbpaaDoor.Cmds

/-- A row of steps with its fourth cells told. -/
def RowR (N : Nat) (v : Value) (r : List (Stp × Value)) (W : World) : Prop :=
  W.ownsRow N 42 4 v r.length (flat r) ∧ ∀ x ∈ r, BytesOf N x.1.l x.2 W
theorem RowR.row {N : Nat} {v : Value} {r : List (Stp × Value)} {W : World} (h : RowR N v r W) : Row N v (r.map (·.1)) W := ⟨r, rfl, h.1, h.2⟩
theorem bytes_grown {N M k : Nat} {l : List Nat} {u v : Value} {xs : List Value} {W w1 : World} (h : BytesOf N l u W) (hr : W.ownsRow M 42 4 v k xs) (hg : W.grownBy w1 v.ownBlock) : BytesOf N l u w1 := by
  rcases h with h | ⟨h0, h⟩
  · exact .inl h
  · refine .inr ⟨h0, World.ownsRow.kept h hg ?_⟩
    cases hu : u.ownBlock with
    | none => exact .inl rfl
    | some j =>
      right
      intro e
      obtain ⟨_, cur, hc⟩ := row_from' h hu
      obtain ⟨_, cur2, hc2⟩ := row_from' hr e.symm
      rw [hc] at hc2
      injection hc2 with hc2
      injection hc2 with _ hc2 _
      exact absurd hc2 (by decide)
theorem bytes_below {N : Nat} {l : List Nat} {u : Value} {W W' : World} (h : BytesOf N l u W) (hb : Below W.heap.size W W') : BytesOf N l u W' := by
  rcases h with h | ⟨h0, h⟩
  · exact .inl h
  · exact .inr ⟨h0, own_below h hb⟩
theorem RowR.below {N : Nat} {v : Value} {r : List (Stp × Value)} {W W' : World} (h : RowR N v r W) (hb : Below W.heap.size W W') : RowR N v r W' :=
  ⟨h.1.kept (row := none) ⟨hb.os, hb.tape, hb.output, hb.size, fun k hk _ => hb.block k hk⟩ (by
    cases v.ownBlock with
    | none => exact .inl rfl
    | some j => exact .inr (by simp)), fun x hx => bytes_below (h.2 x hx) hb⟩
theorem RowR.push {N : Nat} {v v' u : Value} {r : List (Stp × Value)} {s : Stp} {W w1 : World} (h : RowR N v r W) (hu : BytesOf N s.l u W)
    (hown : w1.ownsRow N 42 4 v' (r.length + 1) (flat r ++ (stepC s.k s.y s.v u).toList)) (hg : W.grownBy w1 v.ownBlock) : RowR N v' (r ++ [(s, u)]) w1 := by
  refine ⟨by rw [List.length_append, flat_app]; exact hown, fun x hx => ?_⟩
  rcases List.mem_append.1 hx with hx | hx
  · exact bytes_grown (h.2 x hx) h.1 hg
  · obtain rfl := List.mem_singleton.1 hx
    exact bytes_grown hu h.1 hg
end Go.Proofs.YtmkcooamgojbpaaDoor.Steps
