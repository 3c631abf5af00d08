/- Parts of the proof: RefOctI, Cmd, CmdR, CmdR2, CmdE, OctR, DecF, CmdRR, CmdF, Script, Steps, StepsP. -/
import Derived.Test.YtmkcooamgojbpaaGreatDoorPart19
import Derived.Lib.SlBytesRow
import Derived.Lib.BufferRead
import Derived.Deep.RegionHeld3
import Derived.Test.YtmkcooamgojbpaaGreatDoorPart4
import Derived.Deep.QuietTactic

/- damperref03: turned, Int, Same. -/
namespace Go.Proofs.YtmkcooamgojbpaaGreatDoor.Octets
set_option linter.unusedVariables false
open Go.RowKit Go.Proofs.YtmkcooamgojbpaaGreatDoor.Kit Go.Proofs.YtmkcooamgojbpaaGreatDoor.Blk
attribute [local go_sem ↓] Go.wp_at_zero Go.wp_at_succ

def nums (l : List Nat) : List Int := l.map fun (b : Nat) => (b : Int)
theorem own_string {N : Nat} {l : List Nat} {v : Value} {w : World} (h : Own N l v w) (h0 : 0 < l.length) : (convert 49 9 v).run Tryz.prog w = .ok (.string (strOfNums (nums l))) w := by
  obtain ⟨g, cap, rfl, hg1, hg2⟩ := World.ownsRow.form h h0
  refine run_convert_bytes_arg w 49 5 (by kernel_rfl) (by kernel_rfl) g 0 l.length cap (nums l) (by simp [nums]) (fun i hi => ?_) 9 (by kernel_rfl)
  have := World.ownsRow.cells h rfl i (.int .u8 (l[i] : Int)) (by simp [vals, hi])
  rw [Addr.add_mid] at this
  simpa [nums, List.getD, hi] using this

end Go.Proofs.YtmkcooamgojbpaaGreatDoor.Octets

/- Commands: command.Right and the document's. -/
namespace Go.Proofs.YtmkcooamgojbpaaGreatDoor.Cmds
set_option linter.unusedVariables false
open Go.RowKit Go.Proofs.YtmkcooamgojbpaaGreatDoor.Kit Go.Proofs.YtmkcooamgojbpaaGreatDoor.Blk Go.Proofs.YtmkcooamgojbpaaGreatDoor.Octets
attribute [local go_sem ↓] Go.wp_at_zero Go.wp_at_succ

structure Cmd where
  k : Int
  s : Int
  i : Int
  a : Int
  b : Int
  t : Int
  p : Int
  q : Int
  f : Int
def Cmd.cells (c : Cmd) : Array Value := #[.int .i64 c.k, .int .i64 c.s, .int .i64 c.i, .int .i64 c.a, .int .i64 c.b, .int .i64 c.t, .int .i64 c.p, .int .i64 c.q, .int .i64 c.f]
def zeroC : Cmd := ⟨0, 0, 0, 0, 0, 0, 0, 0, 0⟩
def inB (v lo hi : Int) : Bool := decide (lo ≤ v) && decide (v ≤ hi)
theorem inB_yes {v lo hi : Int} (h : inB v lo hi = true) : lo ≤ v ∧ v ≤ hi := by simpa [inB] using h
theorem inB_no {v lo hi : Int} (h : inB v lo hi = false) : v < lo ∨ hi < v := by
  simp [inB] at h
  omega
/-- What the language says of a command. -/
def rightC (c : Cmd) : Bool :=
  if inB c.s 0 255 = false then false
  else if inB c.i 0 4611686018427387904 = false then false
  else if c.k = 1 then
    if inB c.a 0 1073741824 = false then false
    else if inB c.b 0 1 = false then false
    else if inB c.t 1 5 = false then false
    else inB c.f 0 7
  else if c.k = 3 then c.a == 0 && (c.b == 0 && (c.t == 0 && c.f == 0))
  else if c.k = 2 then c.a == 0 && (c.b == 0 && (c.t == 0 && (c.p == 0 && (c.q == 0 && c.f == 0))))
  else false

set_option maxRecDepth 20000 in
theorem in_any (v lo hi : Int) (w : World) : Calls Tryz.prog 125 #[.int .i64 v, .int .i64 lo, .int .i64 hi] w fun e w' => e = .returned (.bool (inB v lo hi)) ∧ w = w' := by
  by_cases h1 : lo ≤ v <;> by_cases h2 : v ≤ hi <;>
  · go_enter Tryz.func125, Tryz.ntmps125
    go_wp2_with fail
    go_ret
    simp [inB, h1, h2]
theorem rin_any (v lo hi : Int) (w : World) : Calls Tryz.prog 142 #[.int .i64 v, .int .i64 lo, .int .i64 hi] w fun e w' => e = .returned (.bool (inB v lo hi)) ∧ w = w' := by
  by_cases h1 : lo ≤ v <;> by_cases h2 : v ≤ hi <;>
  · go_enter Tryz.func142, Tryz.ntmps142
    go_wp2_with fail
    go_ret
    simp [inB, h1, h2]
end Go.Proofs.YtmkcooamgojbpaaGreatDoor.Cmds

/- command.Right. -/
namespace Go.Proofs.YtmkcooamgojbpaaGreatDoor.Cmds
set_option linter.unusedVariables false
open Go.RowKit Go.Proofs.YtmkcooamgojbpaaGreatDoor.Kit Go.Proofs.YtmkcooamgojbpaaGreatDoor.Blk Go.Proofs.YtmkcooamgojbpaaGreatDoor.Octets
attribute [local go_sem ↓] Go.wp_at_zero Go.wp_at_succ

set_option maxRecDepth 20000 in
set_option maxHeartbeats 4000000 in
theorem right_one (c : Cmd) (w : World) (hc : c.k = 1 ∨ inB c.s 0 255 = false ∨ inB c.i 0 4611686018427387904 = false) : Calls Tryz.prog 108 #[.agg c.cells] w fun e w' => e = .returned (.bool (rightC c)) ∧ Below w.heap.size w w' := by
  obtain ⟨k, s, i, a, b, t, p, q, f⟩ := c
  have HB := Lib.hid (show Below w.heap.size w (w.alloc (.cells (Cmd.cells ⟨k, s, i, a, b, t, p, q, f⟩) 133)) from (Below.refl _ _).alloc (Nat.le_refl _) _)
  have HB2 := Lib.hid (show ∀ cs : Array Value, Below w.heap.size w ((w.alloc (.cells (Cmd.cells ⟨k, s, i, a, b, t, p, q, f⟩) 133)).alloc (.cells cs 133)) from fun cs => ((Below.refl _ _).alloc (Nat.le_refl _) _).alloc (by simp) _)
  unfold Cmd.cells at *
  dsimp only at hc
  cases h1 : inB s 0 255 with
  | false =>
    clear hc
    have HS := Lib.hid (show rightC ⟨k, s, i, a, b, t, p, q, f⟩ = false by simp [rightC, h1])
    go_enter Tryz.func108, Tryz.ntmps108
    go_wp2_with (go_at_call 125; refine (in_any _ _ _ _).mono ?_; rintro e w1 ⟨rfl, rfl⟩)
    go_ret
    exact ⟨ret_bool HS.out.symm, HB.out⟩
  | true =>
    cases h2 : inB i 0 4611686018427387904 with
    | false =>
      have HS := Lib.hid (show rightC ⟨k, s, i, a, b, t, p, q, f⟩ = false by simp [rightC, h2])
      clear hc
      rcases inB_no h2 with g2 | g2
      · clear h2
        go_enter Tryz.func108, Tryz.ntmps108
        go_wp2_with (go_at_call 125; refine (in_any _ _ _ _).mono ?_; rintro e w1 ⟨rfl, rfl⟩)
        go_ret
        exact ⟨ret_bool HS.out.symm, HB.out⟩
      · have g3 : ¬ i < 0 := by omega
        clear h2
        go_enter Tryz.func108, Tryz.ntmps108
        go_wp2_with (go_at_call 125; refine (in_any _ _ _ _).mono ?_; rintro e w1 ⟨rfl, rfl⟩)
        go_ret
        exact ⟨ret_bool HS.out.symm, HB.out⟩
    | true =>
      obtain ⟨g2, g3⟩ := inB_yes h2
      · obtain rfl : k = 1 := by simpa [h1, h2] using hc
        clear hc
        cases h3 : inB a 0 1073741824 with
        | false =>
          have HS := Lib.hid (show rightC ⟨1, s, i, a, b, t, p, q, f⟩ = false by simp [rightC, h1, h2, h3])
          clear h2
          go_enter Tryz.func108, Tryz.ntmps108
          go_wp2_with (go_at_call 125; refine (in_any _ _ _ _).mono ?_; rintro e w1 ⟨rfl, rfl⟩)
          go_ret
          exact ⟨ret_bool HS.out.symm, HB2.out _⟩
        | true =>
          cases h4 : inB b 0 1 with
          | false =>
            have HS := Lib.hid (show rightC ⟨1, s, i, a, b, t, p, q, f⟩ = false by simp [rightC, h1, h2, h3, h4])
            clear h2
            go_enter Tryz.func108, Tryz.ntmps108
            go_wp2_with (go_at_call 125; refine (in_any _ _ _ _).mono ?_; rintro e w1 ⟨rfl, rfl⟩)
            go_ret
            exact ⟨ret_bool HS.out.symm, HB2.out _⟩
          | true =>
            cases h5 : inB t 1 5 with
            | false =>
              have HS := Lib.hid (show rightC ⟨1, s, i, a, b, t, p, q, f⟩ = false by simp [rightC, h1, h2, h3, h4, h5])
              clear h2
              go_enter Tryz.func108, Tryz.ntmps108
              go_wp2_with (go_at_call 125; refine (in_any _ _ _ _).mono ?_; rintro e w1 ⟨rfl, rfl⟩)
              go_ret
              exact ⟨ret_bool HS.out.symm, HB2.out _⟩
            | true =>
              cases h6 : inB f 0 7 with
              | false =>
                have HS := Lib.hid (show rightC ⟨1, s, i, a, b, t, p, q, f⟩ = false by simp [rightC, h1, h2, h3, h4, h5, h6])
                clear h2
                go_enter Tryz.func108, Tryz.ntmps108
                go_wp2_with (go_at_call 125; refine (in_any _ _ _ _).mono ?_; rintro e w1 ⟨rfl, rfl⟩)
                go_ret
                exact ⟨ret_bool HS.out.symm, HB2.out _⟩
              | true =>
                have HS := Lib.hid (show rightC ⟨1, s, i, a, b, t, p, q, f⟩ = true by simp [rightC, h1, h2, h3, h4, h5, h6])
                clear h2
                go_enter Tryz.func108, Tryz.ntmps108
                go_wp2_with (go_at_call 125; refine (in_any _ _ _ _).mono ?_; rintro e w1 ⟨rfl, rfl⟩)
                go_ret
                exact ⟨ret_bool HS.out.symm, HB2.out _⟩
end Go.Proofs.YtmkcooamgojbpaaGreatDoor.Cmds

/- command.Right: cancels and replacements. -/
namespace Go.Proofs.YtmkcooamgojbpaaGreatDoor.Cmds
set_option linter.unusedVariables false
open Go.RowKit Go.Proofs.YtmkcooamgojbpaaGreatDoor.Kit Go.Proofs.YtmkcooamgojbpaaGreatDoor.Blk Go.Proofs.YtmkcooamgojbpaaGreatDoor.Octets
attribute [local go_sem ↓] Go.wp_at_zero Go.wp_at_succ

set_option maxRecDepth 20000 in
set_option maxHeartbeats 4000000 in
theorem right_any (c : Cmd) (w : World) : Calls Tryz.prog 108 #[.agg c.cells] w fun e w' => e = .returned (.bool (rightC c)) ∧ Below w.heap.size w w' := by
  by_cases hc : c.k = 1 ∨ inB c.s 0 255 = false ∨ inB c.i 0 4611686018427387904 = false
  · exact right_one c w hc
  obtain ⟨k, s, i, a, b, t, p, q, f⟩ := c
  have HB2 := Lib.hid (show ∀ cs : Array Value, Below w.heap.size w ((w.alloc (.cells (Cmd.cells ⟨k, s, i, a, b, t, p, q, f⟩) 133)).alloc (.cells cs 133)) from fun cs => ((Below.refl _ _).alloc (Nat.le_refl _) _).alloc (by simp) _)
  unfold Cmd.cells at *
  dsimp only at hc
  have hk1 : ¬ k = 1 := fun h => hc (.inl h)
  have h1 : inB s 0 255 = true := by
    cases h : inB s 0 255 with
    | true => rfl
    | false => exact absurd (.inr (.inl h)) hc
  have h2 : inB i 0 4611686018427387904 = true := by
    cases h : inB i 0 4611686018427387904 with
    | true => rfl
    | false => exact absurd (.inr (.inr h)) hc
  obtain ⟨g2, g3⟩ := inB_yes h2
  have b1 : (k == 1) = false := by simpa using hk1
  clear hc
  by_cases hk3 : k = 3
  · subst hk3
    have HS := Lib.hid (show rightC ⟨3, s, i, a, b, t, p, q, f⟩ = (a == 0 && (b == 0 && (t == 0 && f == 0))) by simp [rightC, h1, h2])
    clear h2 hk1
    go_enter Tryz.func108, Tryz.ntmps108
    go_wp2_with (go_at_call 125; refine (in_any _ _ _ _).mono ?_; rintro e w1 ⟨rfl, rfl⟩)
    all_goals (subst_vars; go_ret; exact ⟨ret_bool (by rw [HS.out]; try simp [*]), HB2.out _⟩)
  · have b3 : (k == 3) = false := by simpa using hk3
    by_cases hk2 : k = 2
    · subst hk2
      have HS := Lib.hid (show rightC ⟨2, s, i, a, b, t, p, q, f⟩ = (a == 0 && (b == 0 && (t == 0 && (p == 0 && (q == 0 && f == 0))))) by simp [rightC, h1, h2])
      clear h2 hk1 hk3
      go_enter Tryz.func108, Tryz.ntmps108
      go_wp2_with (go_at_call 125; refine (in_any _ _ _ _).mono ?_; rintro e w1 ⟨rfl, rfl⟩)
      all_goals (subst_vars; go_ret; exact ⟨ret_bool (by rw [HS.out]; try simp [*]), HB2.out _⟩)
    · have b2 : (k == 2) = false := by simpa using hk2
      have HS := Lib.hid (show rightC ⟨k, s, i, a, b, t, p, q, f⟩ = false by simp [rightC, h1, h2, hk1, hk2, hk3])
      clear h2 hk1 hk3 hk2
      go_enter Tryz.func108, Tryz.ntmps108
      go_wp2_with (go_at_call 125; refine (in_any _ _ _ _).mono ?_; rintro e w1 ⟨rfl, rfl⟩)
      all_goals (subst_vars; go_ret; exact ⟨ret_bool (by rw [HS.out]; try simp [*]), HB2.out _⟩)
end Go.Proofs.YtmkcooamgojbpaaGreatDoor.Cmds

/- command.Encode. -/
namespace Go.Proofs.YtmkcooamgojbpaaGreatDoor.Cmds
set_option linter.unusedVariables false
open Go.RowKit Go.Proofs.YtmkcooamgojbpaaGreatDoor.Kit Go.Proofs.YtmkcooamgojbpaaGreatDoor.Blk Go.Proofs.YtmkcooamgojbpaaGreatDoor.Octets
attribute [local go_sem ↓] Go.wp_at_zero Go.wp_at_succ

/-- The bytes of a command that is right. -/
def formC (c : Cmd) : List Nat :=
  [c.k.toNat, c.s.toNat] ++ numB c.i.toNat ++ (if c.k = 1 then numB c.a.toNat ++ [c.b.toNat, c.t.toNat, c.f.toNat] else []) ++ (if c.k = 2 then [] else beB 8 (zig c.p) ++ beB 8 (zig c.q))
/-- The bounds that go with rightC. -/
theorem right_in {c : Cmd} (h : rightC c = true) : (c.k = 1 ∨ c.k = 2 ∨ c.k = 3) ∧ (0 ≤ c.s ∧ c.s ≤ 255) ∧ (0 ≤ c.i ∧ c.i ≤ 4611686018427387904) ∧ (c.k = 1 → (0 ≤ c.a ∧ c.a ≤ 1073741824) ∧ (0 ≤ c.b ∧ c.b ≤ 1) ∧ (1 ≤ c.t ∧ c.t ≤ 5) ∧ (0 ≤ c.f ∧ c.f ≤ 7)) := by
  unfold rightC at h
  split at h
  · cases h
  split at h
  · cases h
  rename_i h1 h2
  have h1' := inB_yes (by simpa using h1)
  have h2' := inB_yes (by simpa using h2)
  refine ⟨?_, h1', h2', fun hk => ?_⟩
  · split at h
    · exact .inl (by assumption)
    · split at h
      · exact .inr (.inr (by assumption))
      · split at h
        · exact .inr (.inl (by assumption))
        · cases h
  · rw [if_pos hk] at h
    split at h
    · cases h
    split at h
    · cases h
    split at h
    · cases h
    rename_i h3 h4 h5
    exact ⟨inB_yes (by simpa using h3), inB_yes (by simpa using h4), inB_yes (by simpa using h5), inB_yes h⟩

/-- What an encoder answers: bytes of its own, or a fault. -/
def EncIs (c : Cmd) (w : World) (e : Ending) (w' : World) : Prop :=
  (rightC c = true ∧ ∃ v, e = .returned (.tuple #[v, .int .i64 0]) ∧ Own w.heap.size (formC c) v w' ∧ Below w.heap.size w w') ∨
  (rightC c = false ∧ e = .returned (.tuple #[.slice none 0 0, .int .i64 1]) ∧ Below w.heap.size w w')

theorem own_mono {N M : Nat} {l : List Nat} {v : Value} {W : World} (h : Own M l v W) (hN : N ≤ M) : Own N l v W :=
  ⟨h.1, h.2.imp id fun ⟨g, cap, cur, hv, hb, r⟩ => ⟨g, cap, cur, hv, Nat.le_trans hN hb, r⟩⟩
theorem numG_len (f n : Nat) : (numG f n).length ≤ f + 1 := by
  induction f generalizing n with
  | zero => simp [numG]
  | succ f ih =>
    unfold numG
    split
    · simp
    · have := ih (n / 128)
      simp
      omega
theorem numB_len (n : Nat) : (numB n).length ≤ 11 := numG_len 10 n

end Go.Proofs.YtmkcooamgojbpaaGreatDoor.Cmds

/- Numbers read of bytes: plain lists. -/
namespace Go.Proofs.YtmkcooamgojbpaaGreatDoor.Octets
set_option linter.unusedVariables false

/-- What a reading comes to: a fault, or what was read and what is left. -/
inductive Rd (α : Type) where
  | bad (f : Int) : Rd α
  | ok (x : α) (l : List Nat) : Rd α
def beV (l : List Nat) : Nat := l.foldl (fun a b => a * 256 + b) 0
def uintR (k : Nat) (l : List Nat) : Rd Nat := if l.length < k then .bad 3 else .ok (beV (l.take k)) (l.drop k)
def zag (n : Nat) : Int := if n % 2 = 0 then (n / 2 : Nat) else -((n / 2 : Nat) : Int) - 1
def numR : Nat → Nat → List Nat → Rd Nat
  | i, _, [] => if 10 ≤ i then .bad 4 else .bad 3
  | i, n, b :: l =>
    if 10 ≤ i then .bad 4
    else if i = 9 ∧ 1 < b % 128 then .bad 4
    else if b < 128 then (if b % 128 = 0 ∧ 0 < i then .bad 4 else .ok (n + b % 128 * 128 ^ i) l)
    else numR (i + 1) (n + b % 128 * 128 ^ i) l
theorem zag_zig (n : Int) : zag (zig n) = n := by unfold zag zig; split <;> split <;> omega
theorem zig_zag (n : Nat) : zig (zag n) = n := by
  unfold zag
  split
  · unfold zig; split <;> omega
  · unfold zig; split <;> omega
theorem zag_in {n : Nat} (h : n < 18446744073709551616) : -9223372036854775808 ≤ zag n ∧ zag n ≤ 9223372036854775807 := by unfold zag; split <;> omega
theorem beV_snoc (l : List Nat) (b : Nat) : beV (l ++ [b]) = beV l * 256 + b := by simp [beV, List.foldl_append]
theorem beV_foldl (l : List Nat) : ∀ a, l.foldl (fun a b => a * 256 + b) a = a * 256 ^ l.length + beV l := by
  induction l with
  | nil => intro a; simp [beV]
  | cons b l ih =>
    intro a
    have h1 := ih (a * 256 + b)
    have h2 := ih b
    rw [List.foldl_cons, h1]
    have : beV (b :: l) = b * 256 ^ l.length + beV l := by
      have : beV (b :: l) = l.foldl (fun a b => a * 256 + b) (0 * 256 + b) := rfl
      rw [this, Nat.zero_mul, Nat.zero_add, h2]
    rw [this, List.length_cons, Nat.pow_succ, Nat.add_mul, Nat.mul_assoc, Nat.mul_comm 256, Nat.add_assoc]
theorem beV_cons (b : Nat) (l : List Nat) : beV (b :: l) = b * 256 ^ l.length + beV l := by
  have h2 := beV_foldl l b
  have : beV (b :: l) = l.foldl (fun a b => a * 256 + b) (0 * 256 + b) := rfl
  rw [this, Nat.zero_mul, Nat.zero_add, h2]
theorem beV_lt (l : List Nat) (h : ∀ b ∈ l, b < 256) : beV l < 256 ^ l.length := by
  induction l with
  | nil => simp [beV]
  | cons b l ih =>
    rw [beV_cons, List.length_cons, Nat.pow_succ]
    have h1 := ih (fun c hc => h c (List.mem_cons_of_mem _ hc))
    have h2 := h b List.mem_cons_self
    have : b * 256 ^ l.length ≤ 255 * 256 ^ l.length := Nat.mul_le_mul_right _ (by omega)
    omega
theorem beB_beV (l : List Nat) (h : ∀ b ∈ l, b < 256) : ∀ m, beB l.length (m * 256 ^ l.length + beV l) = l := by
  induction l with
  | nil => intro m; rfl
  | cons b l ih =>
    intro m
    have hl : ∀ c ∈ l, c < 256 := fun c hc => h c (List.mem_cons_of_mem _ hc)
    have h1 := beV_lt l hl
    have h2 := h b List.mem_cons_self
    have hp : 0 < 256 ^ l.length := Nat.pow_pos (by omega)
    rw [List.length_cons, beB, beV_cons]
    have e : m * 256 ^ (l.length + 1) + (b * 256 ^ l.length + beV l) = (m * 256 + b) * 256 ^ l.length + beV l := by
      rw [Nat.pow_succ, Nat.add_mul, Nat.mul_assoc, Nat.mul_comm 256, Nat.add_assoc]
    rw [e, ih hl (m * 256 + b)]
    congr 1
    rw [Nat.add_comm, Nat.add_mul_div_right _ _ hp, Nat.div_eq_of_lt h1]
    omega
theorem be_of {k : Nat} {l : List Nat} (hk : l.length = k) (h : ∀ b ∈ l, b < 256) : beB k (beV l) = l := by
  subst hk
  have := beB_beV l h 0
  rwa [Nat.zero_mul, Nat.zero_add] at this
theorem beB_byte (k n : Nat) : ∀ b ∈ beB k n, b < 256 := by
  induction k with
  | zero => intro b hb; simp [beB] at hb
  | succ k ih =>
    intro b hb
    rw [beB] at hb
    rcases List.mem_cons.1 hb with rfl | hb
    · omega
    · exact ih b hb
theorem beV_beB (k n : Nat) : beV (beB k n) = n % 256 ^ k := by
  induction k with
  | zero => simp [beB, beV, Nat.mod_one]
  | succ k ih =>
    rw [beB, beV_cons, ih, beB_len, Nat.pow_succ]
    have := Nat.mod_mul (x := n) (a := 256 ^ k) (b := 256)
    rw [this, Nat.mul_comm, Nat.add_comm]
theorem uintR_be {k n : Nat} (h : n < 256 ^ k) (l : List Nat) : uintR k (beB k n ++ l) = .ok n l := by
  unfold uintR
  have hl := beB_len k n
  rw [if_neg (by simp [hl]), List.take_append_of_le_length (by omega), List.take_of_length_le (by omega), beV_beB, Nat.mod_eq_of_lt h, List.drop_append_of_le_length (by omega), List.drop_of_length_le (by omega), List.nil_append]
theorem uintR_of {k n : Nat} {l l' : List Nat} (hb : ∀ b ∈ l, b < 256) (h : uintR k l = .ok n l') : l = beB k n ++ l' ∧ n < 256 ^ k := by
  unfold uintR at h
  split at h
  · cases h
  · rename_i hl
    injection h with h1 h2
    subst h1 h2
    have e : (l.take k).length = k := by rw [List.length_take]; omega
    have hb' : ∀ b ∈ l.take k, b < 256 := fun b hm => hb b (List.mem_of_mem_take hm)
    rw [be_of e hb', List.take_append_drop]
    refine ⟨rfl, ?_⟩
    have := beV_lt _ hb'
    rwa [e] at this
theorem ten (i : Nat) (h : i ≤ 9) : i = 0 ∨ i = 1 ∨ i = 2 ∨ i = 3 ∨ i = 4 ∨ i = 5 ∨ i = 6 ∨ i = 7 ∨ i = 8 ∨ i = 9 := by omega
theorem numR_num : ∀ (f i a n : Nat) (l : List Nat), i + f = 10 → i ≤ 9 → n * 128 ^ i < 18446744073709551616 → (0 < i → 0 < n) → numR i a (numG f n ++ l) = .ok (a + n * 128 ^ i) l := by
  intro f
  induction f with
  | zero => intro i a n l h1 h2; omega
  | succ f ih =>
    intro i a n l h1 h2 h3 h4
    have h9 : i = 9 → n < 2 := fun e => by subst e; omega
    by_cases hn : n < 128
    · rw [numG, if_pos hn, List.singleton_append, numR, if_neg (by omega), if_neg (by omega), if_pos hn, if_neg (by omega), Nat.mod_eq_of_lt hn]
    · rw [numG, if_neg hn, List.cons_append, numR, if_neg (by omega), if_neg (by omega), if_neg (by omega)]
      have e1 : (n % 128 + 128) % 128 = n % 128 := by omega
      have e2 : n / 128 * 128 ^ (i + 1) = n / 128 * 128 * 128 ^ i := by rw [Nat.pow_succ, Nat.mul_comm (128 ^ i) 128, Nat.mul_assoc]
      have h5 : n / 128 * 128 * 128 ^ i ≤ n * 128 ^ i := Nat.mul_le_mul_right _ (by omega)
      have hi9 : i ≠ 9 := fun e => by have := h9 e; omega
      rw [e1, ih (i + 1) _ (n / 128) l (by omega) (by omega) (by rw [e2]; omega) (fun _ => by omega)]
      congr 1
      rw [e2, Nat.add_assoc, ← Nat.add_mul]
      congr 2
      omega
theorem room_up {x n P Q M : Nat} (hx : x < 128) (hM : M = Q * (128 * P)) (h : n * (128 * P) < M) : (x + n * 128) * P < M := by
  subst hM
  have h1 : n < Q := Nat.lt_of_mul_lt_mul_right h
  rcases Nat.eq_zero_or_pos P with h0 | h0
  · subst h0; simp at h
  · have h2 : (x + n * 128) * P < (Q * 128) * P := (Nat.mul_lt_mul_right h0).2 (by omega)
    rwa [Nat.mul_assoc] at h2
theorem room (i : Nat) (h : i ≤ 8) : ∃ Q, 18446744073709551616 = Q * (128 * 128 ^ i) := by
  have : i = 0 ∨ i = 1 ∨ i = 2 ∨ i = 3 ∨ i = 4 ∨ i = 5 ∨ i = 6 ∨ i = 7 ∨ i = 8 := by omega
  rcases this with rfl | rfl | rfl | rfl | rfl | rfl | rfl | rfl | rfl
  · exact ⟨144115188075855872, by decide⟩
  · exact ⟨1125899906842624, by decide⟩
  · exact ⟨8796093022208, by decide⟩
  · exact ⟨68719476736, by decide⟩
  · exact ⟨536870912, by decide⟩
  · exact ⟨4194304, by decide⟩
  · exact ⟨32768, by decide⟩
  · exact ⟨256, by decide⟩
  · exact ⟨2, by decide⟩
theorem num_of : ∀ (l : List Nat) (i a m : Nat) (l' : List Nat), i ≤ 9 → (∀ b ∈ l, b < 256) → numR i a l = .ok m l' → ∃ n, l = numG (10 - i) n ++ l' ∧ m = a + n * 128 ^ i ∧ n * 128 ^ i < 18446744073709551616 ∧ (0 < i → 0 < n) := by
  intro l
  induction l with
  | nil =>
    intro i a m l' hi hb h
    rw [numR] at h
    split at h <;> cases h
  | cons b l ih =>
    intro i a m l' hi hb h
    have hb0 := hb b List.mem_cons_self
    rw [numR, if_neg (by omega)] at h
    split at h
    · cases h
    · rename_i h9
      split at h
      · rename_i hlt
        split at h
        · cases h
        · rename_i hz
          injection h with h1 h2
          subst h1 h2
          have hm : b % 128 = b := Nat.mod_eq_of_lt hlt
          rw [hm] at hz h9
          refine ⟨b, ?_, by rw [hm], ?_, fun h => by omega⟩
          · rw [show 10 - i = (9 - i) + 1 by omega, numG, if_pos hlt]; rfl
          · rcases ten i hi with rfl | rfl | rfl | rfl | rfl | rfl | rfl | rfl | rfl | rfl <;> omega
      · rename_i hge
        by_cases hi9 : i = 9
        · subst hi9
          exfalso
          cases l with
          | nil => rw [numR] at h; simp at h
          | cons c l => rw [numR] at h; simp at h
        · obtain ⟨n, e1, e2, e3, e4⟩ := ih (i + 1) _ m l' (by omega) (fun c hc => hb c (List.mem_cons_of_mem _ hc)) h
          have hp : 128 ^ (i + 1) = 128 * 128 ^ i := by rw [Nat.pow_succ, Nat.mul_comm]
          have hn := e4 (by omega)
          refine ⟨b % 128 + n * 128, ?_, ?_, ?_, fun _ => by omega⟩
          · rw [show 10 - i = (10 - (i + 1)) + 1 by omega, numG, if_neg (by omega), e1]
            have : (b % 128 + n * 128) % 128 + 128 = b := by omega
            rw [this, show (b % 128 + n * 128) / 128 = n by omega]; rfl
          · rw [e2, hp, Nat.add_mul, Nat.mul_assoc, Nat.add_assoc]
          · obtain ⟨Q, hQ⟩ := room i (by omega)
            rw [hp] at e3
            exact room_up (Nat.mod_lt _ (by omega)) hQ e3
theorem numR_numB {n : Nat} (h : n < 18446744073709551616) (l : List Nat) : numR 0 0 (numB n ++ l) = .ok n l := by
  have := numR_num 10 0 0 n l (by omega) (by omega) (by omega) (fun h => by omega)
  rw [Nat.pow_zero, Nat.mul_one, Nat.zero_add] at this
  exact this
theorem numR_of {l l' : List Nat} {n : Nat} (hb : ∀ b ∈ l, b < 256) (h : numR 0 0 l = .ok n l') : l = numB n ++ l' ∧ n < 18446744073709551616 := by
  obtain ⟨m, e1, e2, e3, -⟩ := num_of l 0 0 n l' (by omega) hb h
  rw [Nat.pow_zero, Nat.mul_one] at e2 e3
  rw [Nat.zero_add] at e2
  subst e2
  exact ⟨e1, e3⟩
end Go.Proofs.YtmkcooamgojbpaaGreatDoor.Octets

/- A command of its bytes: plain. -/
namespace Go.Proofs.YtmkcooamgojbpaaGreatDoor.Cmds
open Go.Proofs.YtmkcooamgojbpaaGreatDoor.Octets
set_option linter.unusedVariables false

def Rd.bind {α β : Type} (r : Rd α) (f : α → List Nat → Rd β) : Rd β := match r with
  | .bad e => .bad e
  | .ok x l => f x l
def byteR : List Nat → Rd Nat
  | [] => .bad 3
  | b :: l => .ok b l
/-- What only a new order has. -/
structure NewP where
  a : Nat
  b : Nat
  t : Nat
  f : Nat
def newR (l : List Nat) : Rd NewP := Rd.bind (numR 0 0 l) fun a l4 => Rd.bind (byteR l4) fun b l5 => Rd.bind (byteR l5) fun t l6 => Rd.bind (byteR l6) fun f l7 => .ok ⟨a, b, t, f⟩ l7
def pqR (l : List Nat) : Rd (Int × Int) := Rd.bind (uintR 8 l) fun p l9 => Rd.bind (uintR 8 l9) fun q l10 => .ok (zag p, zag q) l10
def mkC (k s i : Nat) (x : NewP) (y : Int × Int) : Cmd := ⟨k, s, i, x.a, x.b, x.t, y.1, y.2, x.f⟩
def endR (k s i : Nat) (x : NewP) (y : Int × Int) (l : List Nat) : Rd Cmd :=
  if 4611686018427387904 < i ∨ 1073741824 < x.a ∨ l ≠ [] ∨ rightC (mkC k s i x y) = false then .bad 4 else .ok (mkC k s i x y) []
def partN (k : Nat) (l : List Nat) : Rd NewP := if k = 1 then newR l else .ok ⟨0, 0, 0, 0⟩ l
def partP (k : Nat) (l : List Nat) : Rd (Int × Int) := if k = 2 then .ok (0, 0) l else pqR l
def decF : List Nat → Rd Cmd
  | [] => .bad 3
  | k :: l => if k < 1 ∨ 3 < k then .bad 4 else
    Rd.bind (byteR l) fun s l => Rd.bind (numR 0 0 l) fun i l => Rd.bind (partN k l) fun x l => Rd.bind (partP k l) fun y l => endR k s i x y l
theorem bind_ok {α β : Type} {r : Rd α} {f : α → List Nat → Rd β} {y : β} {l : List Nat} (h : Rd.bind r f = .ok y l) : ∃ x l', r = .ok x l' ∧ f x l' = .ok y l := by
  cases r with
  | bad e => cases h
  | ok x l' => exact ⟨x, l', rfl, h⟩
theorem byte_ok {l l' : List Nat} {b : Nat} (h : byteR l = .ok b l') : l = b :: l' := by
  cases l with
  | nil => cases h
  | cons c l => injection h with h1 h2; subst h1 h2; rfl
theorem sub_right {l l' m : List Nat} (e : l = m ++ l') (h : ∀ b ∈ l, b < 256) : ∀ b ∈ l', b < 256 := fun b hb => h b (by rw [e]; exact List.mem_append_right _ hb)
theorem pow8 : (256 : Nat) ^ 8 = 18446744073709551616 := by decide
theorem i64_toNat {n : Int} (h : 0 ≤ n) : ((n.toNat : Nat) : Int) = n := by omega
/-- What is decoded is right, and has just these bytes. -/
theorem dec_ok {l l' : List Nat} {c : Cmd} (hb : ∀ b ∈ l, b < 256) (h : decF l = .ok c l') : l' = [] ∧ rightC c = true ∧ formC c = l ∧ (-9223372036854775808 ≤ c.p ∧ c.p ≤ 9223372036854775807) ∧ -9223372036854775808 ≤ c.q ∧ c.q ≤ 9223372036854775807 := by
  cases l with
  | nil => cases h
  | cons k l =>
    rw [decF] at h
    split at h
    · cases h
    rename_i hk
    obtain ⟨s, l1, e1, h⟩ := bind_ok h
    obtain ⟨i, l2, e2, h⟩ := bind_ok h
    obtain ⟨x, l3, e3, h⟩ := bind_ok h
    obtain ⟨y, l4, e4, h⟩ := bind_ok h
    have e1 := byte_ok e1
    have hbl : ∀ b ∈ l, b < 256 := fun b hm => hb b (List.mem_cons_of_mem _ hm)
    have hb1 : ∀ b ∈ l1, b < 256 := sub_right (m := [s]) e1 hbl
    obtain ⟨e2, hi⟩ := numR_of hb1 e2
    have hb2 := sub_right e2 hb1
    unfold endR at h
    split at h
    · cases h
    rename_i hbad
    injection h with h5 h6
    subst h5 h6
    have hl4 : l4 = [] := by
      cases l4 with
      | nil => rfl
      | cons a t => exact absurd (.inr (.inr (.inl (by simp)))) hbad
    subst hl4
    have hr : rightC (mkC k s i x y) = true := by
      cases hx : rightC (mkC k s i x y) with
      | true => rfl
      | false => exact absurd (.inr (.inr (.inr hx))) hbad
    refine ⟨rfl, hr, ?_⟩
    have hN : l2 = (if k = 1 then numB x.a ++ [x.b, x.t, x.f] else []) ++ l3 ∧ (∀ b ∈ l3, b < 256) := by
      unfold partN at e3
      split at e3
      · rename_i h1
        rw [if_pos h1]
        unfold newR at e3
        obtain ⟨a, m1, f1, e3⟩ := bind_ok e3
        obtain ⟨b, m2, f2, e3⟩ := bind_ok e3
        obtain ⟨t, m3, f3, e3⟩ := bind_ok e3
        obtain ⟨f, m4, f4, e3⟩ := bind_ok e3
        injection e3 with g1 g2
        subst g1 g2
        obtain ⟨f1, -⟩ := numR_of hb2 f1
        have f2 := byte_ok f2
        have f3 := byte_ok f3
        have f4 := byte_ok f4
        subst f4 f3 f2
        have e : l2 = (numB a ++ [b, t, f]) ++ m4 := by rw [f1]; simp
        exact ⟨e, sub_right e hb2⟩
      · rename_i h1
        rw [if_neg h1]
        injection e3 with g1 g2
        subst g1 g2
        exact ⟨rfl, hb2⟩
    obtain ⟨hN, hb3⟩ := hN
    have hP : l3 = (if k = 2 then [] else beB 8 (zig y.1) ++ beB 8 (zig y.2)) ∧ (-9223372036854775808 ≤ y.1 ∧ y.1 ≤ 9223372036854775807) ∧ -9223372036854775808 ≤ y.2 ∧ y.2 ≤ 9223372036854775807 := by
      unfold partP at e4
      split at e4
      · rename_i h1
        rw [if_pos h1]
        injection e4 with g1 g2
        subst g1 g2
        exact ⟨rfl, by decide, by decide⟩
      · rename_i h1
        rw [if_neg h1]
        unfold pqR at e4
        obtain ⟨p, m1, f1, e4⟩ := bind_ok e4
        obtain ⟨q, m2, f2, e4⟩ := bind_ok e4
        injection e4 with g1 g2
        subst g1 g2
        obtain ⟨f1, hp⟩ := uintR_of hb3 f1
        have hb4 := sub_right f1 hb3
        obtain ⟨f2, hq⟩ := uintR_of hb4 f2
        rw [pow8] at hp hq
        refine ⟨?_, zag_in hp, zag_in hq⟩
        show l3 = beB 8 (zig (zag p)) ++ beB 8 (zig (zag q))
        rw [zig_zag, zig_zag, f1, f2]
        simp
    obtain ⟨hP, hpq⟩ := hP
    refine ⟨?_, hpq⟩
    unfold formC mkC
    dsimp only
    have k1 : ((k : Int) = 1) = (k = 1) := by apply propext; omega
    have k2 : ((k : Int) = 2) = (k = 2) := by apply propext; omega
    simp only [k1, k2, Int.toNat_natCast]
    rw [e1, e2, hN, hP]
    simp
theorem right_zero {c : Cmd} (h : rightC c = true) : (c.k = 2 ∨ c.k = 3 → c.a = 0 ∧ c.b = 0 ∧ c.t = 0 ∧ c.f = 0) ∧ (c.k = 2 → c.p = 0 ∧ c.q = 0) := by
  unfold rightC at h
  split at h
  · cases h
  · split at h
    · cases h
    · split at h
      · rename_i hk; exact ⟨fun h => by omega, fun h => by omega⟩
      · split at h
        · rename_i hk
          simp only [Bool.and_eq_true, beq_iff_eq] at h
          exact ⟨fun _ => ⟨h.1, h.2.1, h.2.2.1, h.2.2.2⟩, fun h => by omega⟩
        · split at h
          · simp only [Bool.and_eq_true, beq_iff_eq] at h
            exact ⟨fun _ => ⟨h.1, h.2.1, h.2.2.1, h.2.2.2.2.2⟩, fun _ => ⟨h.2.2.2.1, h.2.2.2.2.1⟩⟩
          · cases h
/-- The bytes of one that is right are decoded to it. -/
theorem dec_form {c : Cmd} (h : rightC c = true) (hp : -9223372036854775808 ≤ c.p ∧ c.p ≤ 9223372036854775807) (hq : -9223372036854775808 ≤ c.q ∧ c.q ≤ 9223372036854775807) : decF (formC c) = .ok c [] := by
  obtain ⟨hk, hs, hi, hn⟩ := right_in h
  obtain ⟨hz, hz2⟩ := right_zero h
  obtain ⟨k, s, i, a, b, t, p, q, f⟩ := c
  dsimp only at *
  obtain ⟨k, rfl⟩ := Int.eq_ofNat_of_zero_le (show 0 ≤ k by omega)
  obtain ⟨s, rfl⟩ := Int.eq_ofNat_of_zero_le hs.1
  obtain ⟨i, rfl⟩ := Int.eq_ofNat_of_zero_le hi.1
  unfold formC
  dsimp only
  have k1 : ((k : Int) = 1) = (k = 1) := by apply propext; omega
  have k2 : ((k : Int) = 2) = (k = 2) := by apply propext; omega
  simp only [k1, k2, Int.toNat_natCast, List.cons_append, List.nil_append, List.append_assoc]
  rw [decF, if_neg (by omega)]
  simp only [byteR, Rd.bind]
  rw [numR_numB (by omega)]
  dsimp only
  have hz1 : zig p < 256 ^ 8 := by rw [pow8]; exact zig_lt p hp.1 hp.2
  have hz3 : zig q < 256 ^ 8 := by rw [pow8]; exact zig_lt q hq.1 hq.2
  have hP : ∀ l : List Nat, k ≠ 2 → partP k (beB 8 (zig p) ++ (beB 8 (zig q) ++ l)) = .ok (p, q) l := fun l hk2 => by
    unfold partP pqR
    rw [if_neg hk2, uintR_be hz1]
    simp only [Rd.bind]
    rw [uintR_be hz3]
    simp only [zag_zig]
  have hE : ∀ (x : NewP) (y : Int × Int), mkC k s i x y = ⟨k, s, i, a, b, t, p, q, f⟩ → x.a ≤ 1073741824 → endR k s i x y [] = .ok ⟨k, s, i, a, b, t, p, q, f⟩ [] := fun x y e hx => by
    unfold endR
    rw [e, if_neg]
    rintro (h1 | h1 | h1 | h1)
    · omega
    · omega
    · exact h1 rfl
    · rw [h] at h1; cases h1
  by_cases hk1 : k = 1
  · obtain ⟨ha, hb, ht, hf⟩ := hn (by omega)
    obtain ⟨a, rfl⟩ := Int.eq_ofNat_of_zero_le ha.1
    obtain ⟨b, rfl⟩ := Int.eq_ofNat_of_zero_le hb.1
    obtain ⟨t, rfl⟩ := Int.eq_ofNat_of_zero_le (show 0 ≤ t by omega)
    obtain ⟨f, rfl⟩ := Int.eq_ofNat_of_zero_le hf.1
    rw [if_pos hk1, if_neg (by omega)]
    unfold partN newR
    simp only [Int.toNat_natCast, List.append_assoc, List.cons_append, List.nil_append]
    rw [if_pos hk1, numR_numB (by omega)]
    simp only [byteR, Rd.bind]
    have := hP [] (by omega)
    rw [List.append_nil] at this
    rw [this]
    exact hE _ _ rfl (by dsimp only; omega)
  · obtain ⟨rfl, rfl, rfl, rfl⟩ := hz (by omega)
    rw [if_neg hk1]
    unfold partN
    rw [if_neg hk1]
    simp only [List.nil_append]
    by_cases hk2 : k = 2
    · obtain ⟨rfl, rfl⟩ := hz2 (by omega)
      rw [if_pos hk2]
      unfold partP
      rw [if_pos hk2]
      exact hE _ _ rfl (by dsimp only; omega)
    · rw [if_neg hk2]
      have := hP [] hk2
      rw [List.append_nil] at this
      rw [this]
      exact hE _ _ rfl (by dsimp only; omega)
end Go.Proofs.YtmkcooamgojbpaaGreatDoor.Cmds

/- damperref05.Right. -/
namespace Go.Proofs.YtmkcooamgojbpaaGreatDoor.Cmds
set_option linter.unusedVariables false
open Go.RowKit Go.Proofs.YtmkcooamgojbpaaGreatDoor.Kit Go.Proofs.YtmkcooamgojbpaaGreatDoor.Blk Go.Proofs.YtmkcooamgojbpaaGreatDoor.Octets
attribute [local go_sem ↓] Go.wp_at_zero Go.wp_at_succ

set_option maxRecDepth 20000 in
set_option maxHeartbeats 4000000 in
theorem rright_one (c : Cmd) (w : World) (hc : c.k = 1 ∨ inB c.s 0 255 = false ∨ inB c.i 0 4611686018427387904 = false) : Calls Tryz.prog 129 #[.agg c.cells] w fun e w' => e = .returned (.bool (rightC c)) ∧ Below w.heap.size w w' := by
  obtain ⟨k, s, i, a, b, t, p, q, f⟩ := c
  have HB := Lib.hid (show Below w.heap.size w (w.alloc (.cells (Cmd.cells ⟨k, s, i, a, b, t, p, q, f⟩) 133)) from (Below.refl _ _).alloc (Nat.le_refl _) _)
  unfold Cmd.cells at *
  dsimp only at hc
  cases h1 : inB s 0 255 with
  | false =>
    clear hc
    have HS := Lib.hid (show rightC ⟨k, s, i, a, b, t, p, q, f⟩ = false by simp [rightC, h1])
    go_enter Tryz.func129, Tryz.ntmps129
    go_wp2_with (go_at_call 142; refine (rin_any _ _ _ _).mono ?_; rintro e w1 ⟨rfl, rfl⟩)
    go_ret
    exact ⟨ret_bool HS.out.symm, HB.out⟩
  | true =>
    cases h2 : inB i 0 4611686018427387904 with
    | false =>
      have HS := Lib.hid (show rightC ⟨k, s, i, a, b, t, p, q, f⟩ = false by simp [rightC, h2])
      clear hc
      go_enter Tryz.func129, Tryz.ntmps129
      go_wp2_with (go_at_call 142; refine (rin_any _ _ _ _).mono ?_; rintro e w1 ⟨rfl, rfl⟩)
      go_ret
      exact ⟨ret_bool HS.out.symm, HB.out⟩
    | true =>
      · obtain rfl : k = 1 := by simpa [h1, h2] using hc
        clear hc
        cases h3 : inB a 0 1073741824 with
        | false =>
          have HS := Lib.hid (show rightC ⟨1, s, i, a, b, t, p, q, f⟩ = false by simp [rightC, h1, h2, h3])
          go_enter Tryz.func129, Tryz.ntmps129
          go_wp2_with (go_at_call 142; refine (rin_any _ _ _ _).mono ?_; rintro e w1 ⟨rfl, rfl⟩)
          go_ret
          exact ⟨ret_bool HS.out.symm, HB.out⟩
        | true =>
          cases h4 : inB b 0 1 with
          | false =>
            have HS := Lib.hid (show rightC ⟨1, s, i, a, b, t, p, q, f⟩ = false by simp [rightC, h1, h2, h3, h4])
            go_enter Tryz.func129, Tryz.ntmps129
            go_wp2_with (go_at_call 142; refine (rin_any _ _ _ _).mono ?_; rintro e w1 ⟨rfl, rfl⟩)
            go_ret
            exact ⟨ret_bool HS.out.symm, HB.out⟩
          | true =>
            cases h5 : inB t 1 5 with
            | false =>
              have HS := Lib.hid (show rightC ⟨1, s, i, a, b, t, p, q, f⟩ = false by simp [rightC, h1, h2, h3, h4, h5])
              go_enter Tryz.func129, Tryz.ntmps129
              go_wp2_with (go_at_call 142; refine (rin_any _ _ _ _).mono ?_; rintro e w1 ⟨rfl, rfl⟩)
              go_ret
              exact ⟨ret_bool HS.out.symm, HB.out⟩
            | true =>
              cases h6 : inB f 0 7 with
              | false =>
                have HS := Lib.hid (show rightC ⟨1, s, i, a, b, t, p, q, f⟩ = false by simp [rightC, h1, h2, h3, h4, h5, h6])
                go_enter Tryz.func129, Tryz.ntmps129
                go_wp2_with (go_at_call 142; refine (rin_any _ _ _ _).mono ?_; rintro e w1 ⟨rfl, rfl⟩)
                go_ret
                exact ⟨ret_bool HS.out.symm, HB.out⟩
              | true =>
                have HS := Lib.hid (show rightC ⟨1, s, i, a, b, t, p, q, f⟩ = true by simp [rightC, h1, h2, h3, h4, h5, h6])
                go_enter Tryz.func129, Tryz.ntmps129
                go_wp2_with (go_at_call 142; refine (rin_any _ _ _ _).mono ?_; rintro e w1 ⟨rfl, rfl⟩)
                go_ret
                exact ⟨ret_bool HS.out.symm, HB.out⟩
set_option maxRecDepth 20000 in
set_option maxHeartbeats 4000000 in
theorem rright_any (c : Cmd) (w : World) : Calls Tryz.prog 129 #[.agg c.cells] w fun e w' => e = .returned (.bool (rightC c)) ∧ Below w.heap.size w w' := by
  by_cases hc : c.k = 1 ∨ inB c.s 0 255 = false ∨ inB c.i 0 4611686018427387904 = false
  · exact rright_one c w hc
  obtain ⟨k, s, i, a, b, t, p, q, f⟩ := c
  have HB := Lib.hid (show Below w.heap.size w (w.alloc (.cells (Cmd.cells ⟨k, s, i, a, b, t, p, q, f⟩) 133)) from (Below.refl _ _).alloc (Nat.le_refl _) _)
  unfold Cmd.cells at *
  dsimp only at hc
  have hk1 : ¬ k = 1 := fun h => hc (.inl h)
  have h1 : inB s 0 255 = true := by
    cases h : inB s 0 255 with
    | true => rfl
    | false => exact absurd (.inr (.inl h)) hc
  have h2 : inB i 0 4611686018427387904 = true := by
    cases h : inB i 0 4611686018427387904 with
    | true => rfl
    | false => exact absurd (.inr (.inr h)) hc
  have b1 : (k == 1) = false := by simpa using hk1
  clear hc
  by_cases hk3 : k = 3
  · subst hk3
    have HS := Lib.hid (show rightC ⟨3, s, i, a, b, t, p, q, f⟩ = (a == 0 && (b == 0 && (t == 0 && f == 0))) by simp [rightC, h1, h2])
    clear hk1
    go_enter Tryz.func129, Tryz.ntmps129
    go_wp2_with (go_at_call 142; refine (rin_any _ _ _ _).mono ?_; rintro e w1 ⟨rfl, rfl⟩)
    all_goals (subst_vars; go_ret; exact ⟨ret_bool (by rw [HS.out]; try simp [*]), HB.out⟩)
  · have b3 : (k == 3) = false := by simpa using hk3
    by_cases hk2 : k = 2
    · subst hk2
      have HS := Lib.hid (show rightC ⟨2, s, i, a, b, t, p, q, f⟩ = (a == 0 && (b == 0 && (t == 0 && (p == 0 && (q == 0 && f == 0))))) by simp [rightC, h1, h2])
      clear hk1 hk3
      go_enter Tryz.func129, Tryz.ntmps129
      go_wp2_with (go_at_call 142; refine (rin_any _ _ _ _).mono ?_; rintro e w1 ⟨rfl, rfl⟩)
      all_goals (subst_vars; go_ret; exact ⟨ret_bool (by rw [HS.out]; try simp [*]), HB.out⟩)
    · have b2 : (k == 2) = false := by simpa using hk2
      have HS := Lib.hid (show rightC ⟨k, s, i, a, b, t, p, q, f⟩ = false by simp [rightC, h1, h2, hk1, hk2, hk3])
      clear hk1 hk3 hk2
      go_enter Tryz.func129, Tryz.ntmps129
      go_wp2_with (go_at_call 142; refine (rin_any _ _ _ _).mono ?_; rintro e w1 ⟨rfl, rfl⟩)
      all_goals (subst_vars; go_ret; exact ⟨ret_bool (by rw [HS.out]; try simp [*]), HB.out⟩)
end Go.Proofs.YtmkcooamgojbpaaGreatDoor.Cmds

/- damperref05: form, Encode. -/
namespace Go.Proofs.YtmkcooamgojbpaaGreatDoor.Cmds
set_option linter.unusedVariables false
open Go.RowKit Go.Proofs.YtmkcooamgojbpaaGreatDoor.Kit Go.Proofs.YtmkcooamgojbpaaGreatDoor.Blk Go.Proofs.YtmkcooamgojbpaaGreatDoor.Octets
attribute [local go_sem ↓] Go.wp_at_zero Go.wp_at_succ

theorem own_below {N : Nat} {l : List Nat} {v : Value} {W W' : World} (h : Own N l v W) (hb : Below W.heap.size W W') : Own N l v W' :=
  h.kept (row := none) ⟨hb.os, hb.tape, hb.output, hb.size, fun k hk _ => hb.block k hk⟩ (by
    cases hv : v.ownBlock with
    | none => exact .inl rfl
    | some j => exact .inr (by simp))
theorem numB_pos (n : Nat) : 0 < (numB n).length := by
  unfold numB
  cases 10 with
  | zero => simp [numG]
  | succ f => unfold numG; split <;> simp

end Go.Proofs.YtmkcooamgojbpaaGreatDoor.Cmds

/- script.Of and the document's. -/
namespace Go.Proofs.YtmkcooamgojbpaaGreatDoor.Cmds
set_option linter.unusedVariables false
open Go.RowKit Go.Proofs.YtmkcooamgojbpaaGreatDoor.Kit Go.Proofs.YtmkcooamgojbpaaGreatDoor.Blk Go.Proofs.YtmkcooamgojbpaaGreatDoor.Octets Go.Proofs.YtmkcooamgojbpaaGreatDoor.Blk
attribute [local go_sem ↓] Go.wp_at_zero Go.wp_at_succ

def stepC (k y v : Int) (u : Value) : Array Value := #[.int .i64 k, .int .i64 y, .int .i64 v, u]
theorem one_step (k y v : Int) (a : Option Addr) (n c : Nat) : ∀ u ∈ (stepC k y v (.slice a n c)).toList, u.oneCell' = true := by
  simp [stepC, Value.oneCell']
/-- The step that a command gives. -/
def OfIs (c : Cmd) (w : World) (e : Ending) (w' : World) : Prop :=
  (rightC c = true ∧ ∃ v, e = .returned (.tuple #[.agg (stepC 1 0 0 v), .int .i64 0]) ∧ Own w.heap.size (formC c) v w' ∧ Below w.heap.size w w') ∨
  (rightC c = false ∧ e = .returned (.tuple #[.agg (stepC 0 0 0 (.slice none 0 0)), .int .i64 1]) ∧ Below w.heap.size w w')

theorem own_set {N B : Nat} {l : List Nat} {v : Value} {W : World} (h : Own N l v W) (hne : v.ownBlock ≠ some B) (j : Nat) (u : Value) : Own N l v (W.setCell ⟨B, j, none⟩ u) :=
  h.kept (grown_cell W B j u) (.inr hne)

end Go.Proofs.YtmkcooamgojbpaaGreatDoor.Cmds

/- Rows of steps; damperref29.Same. -/
namespace Go.Proofs.YtmkcooamgojbpaaGreatDoor.Steps
set_option linter.unusedVariables false
open Go.RowKit Go.Proofs.YtmkcooamgojbpaaGreatDoor.Kit Go.Proofs.YtmkcooamgojbpaaGreatDoor.Blk Go.Proofs.YtmkcooamgojbpaaGreatDoor.Octets Go.Proofs.YtmkcooamgojbpaaGreatDoor.Cmds
attribute [local go_sem ↓] Go.wp_at_zero Go.wp_at_succ

/-- A step: three numbers and bytes (none: nil). -/
structure Stp where
  k : Int
  y : Int
  v : Int
  l : List Nat
def BytesOf (N : Nat) (l : List Nat) (u : Value) (W : World) : Prop := (l = [] ∧ u = .slice none 0 0) ∨ (0 < l.length ∧ Own N l u W)
def flat : List (Stp × Value) → List Value
  | [] => []
  | (s, u) :: r => .int .i64 s.k :: .int .i64 s.y :: .int .i64 s.v :: u :: flat r
theorem flat_len (r : List (Stp × Value)) : (flat r).length = r.length * 4 := by
  induction r with
  | nil => rfl
  | cons x r ih => obtain ⟨s, u⟩ := x; simp [flat, ih]; omega
theorem flat_app (r t : List (Stp × Value)) : flat (r ++ t) = flat r ++ flat t := by
  induction r with
  | nil => rfl
  | cons x r ih => obtain ⟨s, u⟩ := x; simp [flat, ih]
theorem flat_at (r : List (Stp × Value)) (i : Nat) (h : i < r.length) : (flat r)[i * 4]? = some (.int .i64 r[i].1.k) ∧ (flat r)[i * 4 + 1]? = some (.int .i64 r[i].1.y) ∧ (flat r)[i * 4 + 2]? = some (.int .i64 r[i].1.v) ∧ (flat r)[i * 4 + 3]? = some r[i].2 := by
  induction r generalizing i with
  | nil => exact absurd h (by simp)
  | cons x r ih =>
    obtain ⟨s, u⟩ := x
    cases i with
    | zero => exact ⟨rfl, rfl, rfl, rfl⟩
    | succ i =>
      have h' := ih i (by simpa using h)
      rw [show (i + 1) * 4 = i * 4 + 1 + 1 + 1 + 1 by omega, show i * 4 + 1 + 1 + 1 + 1 + 1 = (i * 4 + 1) + 1 + 1 + 1 + 1 by omega]
      simpa [flat] using h'
/-- A row of steps, each with bytes of its own. -/
def Row (N : Nat) (v : Value) (ss : List Stp) (W : World) : Prop :=
  ∃ r : List (Stp × Value), r.map (·.1) = ss ∧ W.ownsRow N 113 4 v r.length (flat r) ∧ ∀ x ∈ r, BytesOf N x.1.l x.2 W

end Go.Proofs.YtmkcooamgojbpaaGreatDoor.Steps

/- Rows of steps: what appending keeps. -/
namespace Go.Proofs.YtmkcooamgojbpaaGreatDoor.Steps
open Go.RowKit Go.Proofs.YtmkcooamgojbpaaGreatDoor.Kit Go.Proofs.YtmkcooamgojbpaaGreatDoor.Blk Go.Proofs.YtmkcooamgojbpaaGreatDoor.Octets Go.Proofs.YtmkcooamgojbpaaGreatDoor.Cmds

/-- A row of steps with its fourth cells told. -/
def RowR (N : Nat) (v : Value) (r : List (Stp × Value)) (W : World) : Prop :=
  W.ownsRow N 113 4 v r.length (flat r) ∧ ∀ x ∈ r, BytesOf N x.1.l x.2 W
theorem RowR.row {N : Nat} {v : Value} {r : List (Stp × Value)} {W : World} (h : RowR N v r W) : Row N v (r.map (·.1)) W := ⟨r, rfl, h.1, h.2⟩
theorem bytes_grown {N M k : Nat} {l : List Nat} {u v : Value} {xs : List Value} {W w1 : World} (h : BytesOf N l u W) (hr : W.ownsRow M 113 4 v k xs) (hg : W.grownBy w1 v.ownBlock) : BytesOf N l u w1 := by
  rcases h with h | ⟨h0, h⟩
  · exact .inl h
  · refine .inr ⟨h0, World.ownsRow.kept h hg ?_⟩
    cases hu : u.ownBlock with
    | none => exact .inl rfl
    | some j =>
      right
      intro e
      obtain ⟨_, cur, hc⟩ := row_from' h hu
      obtain ⟨_, cur2, hc2⟩ := row_from' hr e.symm
      rw [hc] at hc2
      injection hc2 with hc2
      injection hc2 with _ hc2 _
      exact absurd hc2 (by decide)
theorem bytes_below {N : Nat} {l : List Nat} {u : Value} {W W' : World} (h : BytesOf N l u W) (hb : Below W.heap.size W W') : BytesOf N l u W' := by
  rcases h with h | ⟨h0, h⟩
  · exact .inl h
  · exact .inr ⟨h0, own_below h hb⟩
theorem RowR.below {N : Nat} {v : Value} {r : List (Stp × Value)} {W W' : World} (h : RowR N v r W) (hb : Below W.heap.size W W') : RowR N v r W' :=
  ⟨h.1.kept (row := none) ⟨hb.os, hb.tape, hb.output, hb.size, fun k hk _ => hb.block k hk⟩ (by
    cases v.ownBlock with
    | none => exact .inl rfl
    | some j => exact .inr (by simp)), fun x hx => bytes_below (h.2 x hx) hb⟩
theorem RowR.push {N : Nat} {v v' u : Value} {r : List (Stp × Value)} {s : Stp} {W w1 : World} (h : RowR N v r W) (hu : BytesOf N s.l u W)
    (hown : w1.ownsRow N 113 4 v' (r.length + 1) (flat r ++ (stepC s.k s.y s.v u).toList)) (hg : W.grownBy w1 v.ownBlock) : RowR N v' (r ++ [(s, u)]) w1 := by
  refine ⟨by rw [List.length_append, flat_app]; exact hown, fun x hx => ?_⟩
  rcases List.mem_append.1 hx with hx | hx
  · exact bytes_grown (h.2 x hx) h.1 hg
  · obtain rfl := List.mem_singleton.1 hx
    exact bytes_grown hu h.1 hg
end Go.Proofs.YtmkcooamgojbpaaGreatDoor.Steps
