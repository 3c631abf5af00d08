/- Parts of the proof: Octets, OctetsN, Begin. -/
import Derived.Test.YtogjgpiddjmpiaaPart3
import Derived.Test.YtogjgpiddjmpiaaPart4
import Derived.Deep.AppendLies
import Derived.Deep.DrawnRows
import Derived.Test.YtogjgpiddjmpiaaPart1

/- Bytes written one behind the other: what a writer keeps. -/
namespace Go.Proofs.Ytogjgpiddjmpiaa.Octets
set_option linter.unusedVariables false
open Go.RowKit Go.Proofs.Ytogjgpiddjmpiaa.Kit Go.Proofs.Ytogjgpiddjmpiaa.Blk
attribute [local go_sem ↓] Go.wp_at_zero Go.wp_at_succ

/-- A number in groups of seven bits, the least first. -/
def numG : Nat → Nat → List Nat
  | 0, n => [n]
  | f + 1, n => if n < 128 then [n] else (n % 128 + 128) :: numG f (n / 128)
def numB (n : Nat) : List Nat := numG 10 n
def vals (l : List Nat) : List Value := l.map fun (b : Nat) => Value.int .u8 (b : Int)
theorem vals_app (l k : List Nat) : vals (l ++ k) = vals l ++ vals k := by simp [vals]
theorem vals_len (l : List Nat) : (vals l).length = l.length := by simp [vals]
theorem infoU8 : (Try.prog.info? 5).map (fun i => (i.zero, i.size, i.bytes)) = some (some (.int .u8 0), 1, 1) := by kernel_rfl
/-- A writer at block P has written l. -/
def WS (N P : Nat) (l : List Nat) (W : World) : Prop := ∃ v, Blk W P #[v] 230 ∧ W.ownsRow N 5 1 v l.length (vals l)
/-- Block B is neither the writer's nor the one that its bytes lie in. -/
def NR (P B : Nat) (W : World) : Prop := B ≠ P ∧ ∀ v, Blk W P #[v] 230 → v.ownBlock ≠ some B
/-- Nothing below N has changed, nor any block but bytes and writers; nor any but the writer's own. -/
structure Keep (N P : Nat) (w w' : World) : Prop where
  bel : Below N w w'
  blk : ∀ (B : Nat) (cs : Array Value) (T : TypeId), Blk w B cs T → T ≠ 230 → T ≠ 5 → Blk w' B cs T
  apart : ∀ B, B < w.heap.size → NR P B w → NR P B w' ∧ w'.heap[B]? = w.heap[B]?
theorem Keep.refl (N P : Nat) (w : World) : Keep N P w w := ⟨Below.refl _ _, fun _ _ _ h _ _ => h, fun _ _ h => ⟨h, rfl⟩⟩
theorem Keep.trans {N P : Nat} {a b c : World} (h : Keep N P a b) (k : Keep N P b c) : Keep N P a c := ⟨h.bel.trans k.bel, fun B cs T hB h1 h2 => k.blk B cs T (h.blk B cs T hB h1 h2) h1 h2, fun B hB hn =>
  have h1 := h.apart B hB hn
  have h2 := k.apart B (Nat.lt_of_lt_of_le hB h.bel.size) h1.1
  ⟨h2.1, h2.2.trans h1.2⟩⟩
theorem Keep.below {N P : Nat} {w w' : World} (hN : N ≤ w.heap.size) (hP : P < w.heap.size) (h : Below w.heap.size w w') : Keep N P w w' := ⟨h.mono hN, fun B cs T hB _ _ => hB.below h hB.lt, fun B hB hn => ⟨⟨hn.1, fun v hv => hn.2 v (by unfold Blk at hv ⊢; rw [← h.block P hP]; exact hv)⟩, h.block B hB⟩⟩
theorem row_from' {W : World} {base e size k : Nat} {v : Value} {xs : List Value} (hr : W.ownsRow base e size v k xs) {j : Nat} (h : v.ownBlock = some j) : base ≤ j ∧ ∃ cur, W.heap[j]? = some (.cells cur e (0, 0)) := by
  rcases hr.2 with ⟨rfl, _⟩ | ⟨g, cap, cur, rfl, hg, hgb, _⟩
  · simp [Value.ownBlock] at h
  · obtain rfl : g = j := by simpa [Value.ownBlock] using h
    exact ⟨hg, cur, hgb⟩
theorem blk_row' {W W' : World} {B : Nat} {cs : Array Value} {t e base size k : Nat} {v : Value} {xs : List Value} (h : Blk W B cs t) (hte : t ≠ e) (hr : W.ownsRow base e size v k xs) (hg : W.grownBy W' v.ownBlock) : Blk W' B cs t := by
  refine (hg.block B h.lt (fun e' => ?_)).trans h
  obtain ⟨_, cur, hc⟩ := row_from' hr e'.symm
  rw [show W.heap[B]? = _ from h] at hc
  cases hc
  exact hte rfl
theorem grown_cell (W : World) (b j : Nat) (v : Value) : W.grownBy (W.setCell ⟨b, j, none⟩ v) (some b) :=
  ⟨rfl, rfl, rfl, by simp [World.setCell], fun k _ hk => Below.heap_setCell _ _ _ k (fun e => hk (by rw [e]))⟩
theorem blk_keep {W W' w1 : World} {B : Nat} {cs : Array Value} {t e base size k : Nat} {v : Value} {xs : List Value} (hb : Below W.heap.size W W') (h : Blk W B cs t) (hte : t ≠ e) (hr : W.ownsRow base e size v k xs) (hg : W'.grownBy w1 v.ownBlock) : Blk w1 B cs t := by
  refine (hg.block B (Nat.lt_of_lt_of_le h.lt hb.size) (fun e' => ?_)).trans (h.below hb h.lt)
  obtain ⟨_, cur, hc⟩ := row_from' hr e'.symm
  rw [show W.heap[B]? = _ from h] at hc
  cases hc
  exact hte rfl
/-- Bytes appended (W': the world behind what was laid for them). -/
theorem ws_push {N P : Nat} {l m : List Nat} {W W' w1 : World} {v v' : Value} (hb : Below W.heap.size W W') (hv : Blk W P #[v] 230) (hrow : W.ownsRow N 5 1 v l.length (vals l)) (hNP : N ≤ P) (hle : N ≤ W.heap.size)
    (hown : w1.ownsRow N 5 1 v' (l.length + m.length) (vals l ++ vals m)) (hgrow : W'.grownBy w1 v.ownBlock) {g H : Nat} (hv' : v'.ownBlock = some g) (hat : v.ownBlock = some g ∨ g = H) (hH : W.heap.size ≤ H) :
    WS N P (l ++ m) (w1.setCell ⟨P, 0, none⟩ v') ∧ Keep N P W (w1.setCell ⟨P, 0, none⟩ v') := by
  have h1 : Blk w1 P #[v] 230 := blk_keep hb hv (by decide) hrow hgrow
  refine ⟨⟨v', ?_, ?_⟩, ?_, ?_, ?_⟩
  · have := h1.set 0 v'; exact this
  · rw [vals_app, List.length_append]
    refine hown.kept (grown_cell w1 P 0 v') ?_
    cases hv' : v'.ownBlock with
    | none => exact .inl rfl
    | some j =>
      right
      intro e
      obtain ⟨_, cur, hc⟩ := row_from' hown hv'
      cases e
      rw [show w1.heap[P]? = _ from h1] at hc
      cases hc
  · exact (((hb.mono hle).grown hgrow (Nat.le_trans hle hb.size) (fun k e => (row_from' hrow e).1))).setCell (p := ⟨P, 0, none⟩) hNP v'
  · intro B cs T hB h2 h3
    refine (blk_keep hb hB h3 hrow hgrow).apart _ _ ?_
    show P ≠ B
    intro e
    subst e
    have hB' : W.heap[P]? = some (.cells cs T (0, 0)) := hB
    rw [show W.heap[P]? = _ from hv] at hB'
    injection hB' with hB'
    injection hB' with _ hB' _
    exact h2 hB'.symm
  · intro B hB hn
    have hvB : v.ownBlock ≠ some B := hn.2 v hv
    have e1 : w1.heap[B]? = W.heap[B]? := (hgrow.block B (Nat.lt_of_lt_of_le hB hb.size) (fun e => hvB e.symm)).trans (hb.block B hB)
    have e2 : (w1.setCell ⟨P, 0, none⟩ v').heap[B]? = w1.heap[B]? := Below.heap_setCell _ _ _ B (fun e => hn.1 (by first | exact e | exact e.symm))
    refine ⟨⟨hn.1, fun u hu => ?_⟩, e2.trans e1⟩
    have h3 : Blk (w1.setCell ⟨P, 0, none⟩ v') P #[v'] 230 := h1.set 0 v'
    have hu' : (w1.setCell ⟨P, 0, none⟩ v').heap[P]? = some (.cells #[u] 230 (0, 0)) := hu
    rw [show (w1.setCell ⟨P, 0, none⟩ v').heap[P]? = _ from h3] at hu'
    injection hu' with hu'
    injection hu' with hu'
    have hu2 : v' = u := by injection hu' with hu'; injection hu'
    rw [← hu2, hv']
    intro e
    injection e with e
    rcases hat with h | h
    · exact hvB (by rw [h, e])
    · omega
theorem nr_new {N P : Nat} {l : List Nat} {W : World} (h : WS N P l W) (o : Obj) : NR P W.heap.size (W.alloc o) := by
  obtain ⟨v, hv, hrow⟩ := h
  have hP := hv.lt
  refine ⟨by omega, fun u hu => ?_⟩
  have h3 : Blk (W.alloc o) P #[v] 230 := hv.old o
  have hu' : (W.alloc o).heap[P]? = some (.cells #[u] 230 (0, 0)) := hu
  rw [show (W.alloc o).heap[P]? = _ from h3] at hu'
  injection hu' with hu'
  injection hu' with hu'
  have hu2 : v = u := by injection hu' with hu'; injection hu'
  rw [← hu2]
  intro e
  have := (hrow.lt _ e).2
  omega
end Go.Proofs.Ytogjgpiddjmpiaa.Octets

/- octets.Writer: Num, Raw, Uint, Int, Bytes. -/
namespace Go.Proofs.Ytogjgpiddjmpiaa.Octets
set_option linter.unusedVariables false
open Go.RowKit Go.Proofs.Ytogjgpiddjmpiaa.Kit Go.Proofs.Ytogjgpiddjmpiaa.Blk
attribute [local go_sem ↓] Go.wp_at_zero Go.wp_at_succ

theorem numG_more (f n : Nat) (h : ¬ n < 128) : numG (f + 1) n = (n % 128 + 128) :: numG f (n / 128) := by rw [numG, if_neg h]
theorem numG_one (f n : Nat) (h : n < 128) : numG f n = [n] := by cases f <;> simp [numG, h]

theorem or8 (m : Nat) : bits .or .u8 ((m : Int) % 256) 128 = ((m % 128 + 128 : Nat) : Int) := by
  have key : ∀ x : Fin 256, bits .or .u8 (x.val : Int) 128 = ((x.val % 128 + 128 : Nat) : Int) := by decide +kernel
  have h := key ⟨m % 256, Nat.mod_lt _ (by decide)⟩
  have e1 : ((m % 256 : Nat) : Int) = (m : Int) % 256 := by omega
  have e2 : m % 256 % 128 = m % 128 := by omega
  dsimp only at h
  rw [e1, e2] at h
  exact h
theorem news_one {w : World} {b : Nat} {T B : Nat} (h : Blk w B #[.int .u8 (b : Int)] T) : ∀ j u, [Value.int .u8 (b : Int)][j]? = some u → w.cell? ((⟨B, 0, none⟩ : Addr).add j) = some u := fun j u hu => by
  rw [Addr.add_mid, Nat.zero_add]; exact h.cell j (by simpa using hu)
theorem news_vals {w : World} {m : List Nat} {T B : Nat} (h : Blk w B (vals m).toArray T) : ∀ j u, (vals m)[j]? = some u → w.cell? ((⟨B, 0, none⟩ : Addr).add j) = some u := fun j u hu => by
  rw [Addr.add_mid, Nat.zero_add]; exact h.cell j (by simpa using hu)
theorem one_vals (m : List Nat) : ∀ u ∈ vals m, u.oneCell' = true := fun u hu => by
  obtain ⟨b, _, rfl⟩ := List.mem_map.1 hu; rfl
theorem slice_of {W : World} {base e size k : Nat} {v : Value} {xs : List Value} (hr : W.ownsRow base e size v k xs) : ∃ a c, v = .slice a k c := by
  rcases hr.2 with ⟨rfl, rfl⟩ | ⟨g, cap, cur, rfl, _⟩
  · exact ⟨_, _, rfl⟩
  · exact ⟨_, _, rfl⟩

set_option maxRecDepth 20000 in
set_option maxHeartbeats 2000000 in
theorem num_any (N P : Nat) (hNP : N ≤ P) (l : List Nat) (hl : l.length ≤ 10000) (n : Nat) (hn : n < 18446744073709551616) (w : World) (hN : N ≤ w.heap.size) (hw : WS N P l w) :
    Calls Try.prog 141 #[.pointer (some ⟨P, 0, none⟩), .int .u64 n] w fun e w' => e = .returned (.pointer (some ⟨P, 0, none⟩)) ∧ WS N P (l ++ numB n) w' ∧ Keep N P w w' := by
  obtain ⟨i0, hi0, hz0, hz1, hz2⟩ := info_parts infoU8
  have HW := Lib.hid hw
  clear hw
  go_enter Try.func141, Try.ntmps141
  go_wp2_with fail
  go_loopw [1] (fun x wr => ∃ (f m : Nat) (k : List Nat), x = .int .u64 m ∧ f ≤ 10 ∧ m < 128 ^ (f + 1) ∧ m < 18446744073709551616 ∧ k.length + f ≤ l.length + 10 ∧ k ++ numG f m = l ++ numB n ∧ WS N P k wr ∧ Keep N P w wr) (fun x _ => (intOf x).toNat)
  case atStart => exact ⟨10, n, l, rfl, by omega, Nat.lt_trans hn (by decide), hn, by omega, rfl, HW.out, Keep.refl _ _ _⟩
  case round =>
    obtain ⟨f, m, k, rfl, hf, hm, hm2, hkl, hkn, ⟨v, hv, hrow⟩, hkp⟩ := hrel
    have HV := Lib.hid hv
    have HROW := Lib.hid hrow
    have HKP := Lib.hid hkp
    have HKN := Lib.hid hkn
    have HM := Lib.hid hm
    obtain ⟨va, vc, rfl⟩ := slice_of hrow
    have hc : wr.cell? ⟨P, 0, none⟩ = some (.slice va k.length vc) := hv.cell 0 rfl
    clear hv hrow hkp hkn hm
    by_cases hlt : 128 ≤ m
    · have g1 : (128 : Int) ≤ (m : Int) := by omega
      obtain ⟨f', rfl⟩ : ∃ f', f = f' + 1 := by
        cases f with
        | zero => have := HM.out; rw [Nat.zero_add, Nat.pow_one] at this; omega
        | succ f' => exact ⟨f', rfl⟩
      have HM2 := Lib.hid (show m / 128 < 128 ^ (f' + 1) by have h := HM.out; rw [Nat.pow_succ] at h; exact Nat.div_lt_of_lt_mul (by rw [Nat.mul_comm]; exact h))
      obtain ⟨b, hb⟩ : ∃ b, b = m % 128 + 128 := ⟨_, rfl⟩
      have hb8 : bits .or .u8 ((m : Int) % 256) 128 = (b : Int) := by rw [hb]; exact or8 m
      have HKN2 := Lib.hid (show k ++ [b] ++ numG f' (m / 128) = l ++ numB n by rw [← HKN.out, numG_more _ _ (by omega), hb]; simp)
      clear hb HM HKN
      have HNW := Lib.hid (Blk.new wr #[.int .u8 (b : Int)] 5 wr.heap.size rfl)
      have HRA := Lib.hid (HROW.out.alloc (.cells #[.int .u8 (b : Int)] 5))
      have hle : N ≤ wr.heap.size := Nat.le_trans hN HKP.out.bel.size
      go_wp2_with
      (at_builtin; refine wpList_append_lies _ (by rfl) _ _ _ (by rfl) N 5 i0 (.int .u8 0) 1 1 Try.underlying121 hi0 hz0 hz1 hz2 (by rfl) (by decide) _ k.length (vals k) (by rfl) HRA.out ⟨wr.heap.size, 0, none⟩ 1 1 [.int .u8 (b : Int)] (by rfl) (by rfl) (news_one HNW.out) (by simp [Value.oneCell']) (by decide) (by unfold maxLen; omega) (by omega) (by simp; omega) (wr.heap.size + 1) (by simp) ?_; intro ga ca w5 hown hgrow hat hlt5; have HPU := Lib.hid (ws_push (m := [b]) ((Below.refl _ _).alloc (Nat.le_refl _) (.cells #[.int .u8 (b : Int)] 5)) HV.out HROW.out hNP hle hown hgrow rfl hat (by omega)); have c5 : w5.cell? ⟨P, 0, none⟩ = some (.slice va k.length vc) := (blk_row' (HV.out.old (.cells #[.int .u8 (b : Int)] 5)) (by decide) HRA.out hgrow).cell 0 rfl; have f5 : w5.frozen? ⟨P, 0, none⟩ = false := (blk_row' (HV.out.old (.cells #[.int .u8 (b : Int)] 5)) (by decide) HRA.out hgrow).free 0; clear hown hgrow hat hlt5)
      go_roundw
      case rel => exact ⟨f', m / 128, k ++ [b], by simp, by omega, HM2.out, by omega, by rw [List.length_append]; simp; omega, HKN2.out, HPU.out.1, HKP.out.trans HPU.out.2⟩
      case measure => simp [intOf]; omega
    · have g1 : (m : Int) < 128 := by omega
      have hb7 : (m : Int) % 256 = (m : Int) := by omega
      obtain ⟨b, rfl⟩ : ∃ b, b = m := ⟨_, rfl⟩
      have HFIN := Lib.hid (show k ++ [b] = l ++ numB n by rw [← HKN.out, numG_one _ _ (by omega)])
      clear HM HKN
      have HNW := Lib.hid (Blk.new wr #[.int .u8 (b : Int)] 5 wr.heap.size rfl)
      have HRA := Lib.hid (HROW.out.alloc (.cells #[.int .u8 (b : Int)] 5))
      have hle : N ≤ wr.heap.size := Nat.le_trans hN HKP.out.bel.size
      go_wp2_with
      (at_builtin; refine wpList_append_lies _ (by rfl) _ _ _ (by rfl) N 5 i0 (.int .u8 0) 1 1 Try.underlying121 hi0 hz0 hz1 hz2 (by rfl) (by decide) _ k.length (vals k) (by rfl) HRA.out ⟨wr.heap.size, 0, none⟩ 1 1 [.int .u8 (b : Int)] (by rfl) (by rfl) (news_one HNW.out) (by simp [Value.oneCell']) (by decide) (by unfold maxLen; omega) (by omega) (by simp; omega) (wr.heap.size + 1) (by simp) ?_; intro ga ca w5 hown hgrow hat hlt5; have HPU := Lib.hid (ws_push (m := [b]) ((Below.refl _ _).alloc (Nat.le_refl _) (.cells #[.int .u8 (b : Int)] 5)) HV.out HROW.out hNP hle hown hgrow rfl hat (by omega)); have c5 : w5.cell? ⟨P, 0, none⟩ = some (.slice va k.length vc) := (blk_row' (HV.out.old (.cells #[.int .u8 (b : Int)] 5)) (by decide) HRA.out hgrow).cell 0 rfl; have f5 : w5.frozen? ⟨P, 0, none⟩ = false := (blk_row' (HV.out.old (.cells #[.int .u8 (b : Int)] 5)) (by decide) HRA.out hgrow).free 0; clear hown hgrow hat hlt5)
      go_ret
      exact ⟨rfl, by rw [← HFIN.out]; exact HPU.out.1, HKP.out.trans HPU.out.2⟩

set_option maxRecDepth 20000 in
theorem raw_any (N P : Nat) (hNP : N ≤ P) (k m : List Nat) (hk : k.length ≤ 10000) (hm0 : 0 < m.length) (hm : m.length ≤ 10000) (B c : Nat) (w : World) (hN : N ≤ w.heap.size) (hw : WS N P k w) (hB : Blk w B (vals m).toArray 5) :
    Calls Try.prog 140 #[.pointer (some ⟨P, 0, none⟩), .slice (some ⟨B, 0, none⟩) m.length c] w fun e w' => e = .returned (.pointer (some ⟨P, 0, none⟩)) ∧ WS N P (k ++ m) w' ∧ Keep N P w w' := by
  obtain ⟨i0, hi0, hz0, hz1, hz2⟩ := info_parts infoU8
  obtain ⟨v, hv, hrow⟩ := hw
  have HV := Lib.hid hv
  have HROW := Lib.hid hrow
  have HBB := Lib.hid hB
  obtain ⟨va, vc, rfl⟩ := slice_of hrow
  have hc : w.cell? ⟨P, 0, none⟩ = some (.slice va k.length vc) := hv.cell 0 rfl
  have HLM := Lib.hid (vals_len m)
  clear hv hrow hB
  go_enter Try.func140, Try.ntmps140
  go_wp2_with (at_builtin; refine wpList_append_lies _ (by rfl) _ _ _ (by rfl) N 5 i0 (.int .u8 0) 1 1 Try.underlying121 hi0 hz0 hz1 hz2 (by rfl) (by decide) _ k.length (vals k) (by rfl) HROW.out ⟨B, 0, none⟩ m.length c (vals m) (by rfl) (by rw [HLM.out, Nat.mul_one]) (news_vals HBB.out) (one_vals m) hm0 (by unfold maxLen; omega) (by omega) hN w.heap.size rfl ?_; intro ga ca w5 hown hgrow hat hlt5; have HPU := Lib.hid (ws_push (m := m) (Below.refl _ _) HV.out HROW.out hNP hN hown hgrow rfl hat (Nat.le_refl _)); have c5 : w5.cell? ⟨P, 0, none⟩ = some (.slice va k.length vc) := (blk_row' HV.out (by decide) HROW.out hgrow).cell 0 rfl; have f5 : w5.frozen? ⟨P, 0, none⟩ = false := (blk_row' HV.out (by decide) HROW.out hgrow).free 0; clear hown hgrow hat hlt5)
  go_ret
  exact ⟨rfl, HPU.out.1, HPU.out.2⟩
end Go.Proofs.Ytogjgpiddjmpiaa.Octets

/- drill.Start and the document's: the tick at which trading begins. -/
namespace Go.Proofs.Ytogjgpiddjmpiaa.Begin
set_option linter.unusedVariables false
open Go.RowKit Go.Proofs.Ytogjgpiddjmpiaa.Kit Go.Proofs.Ytogjgpiddjmpiaa.Blk Go.Proofs.Ytogjgpiddjmpiaa.Table Go.Proofs.Ytogjgpiddjmpiaa.Check
attribute [local go_sem ↓] Go.wp_at_zero Go.wp_at_succ

def findG : List (Int × Int) → Int × Bool
  | [] => (0, false)
  | (t, p) :: l => if p = 2 then (t, true) else findG l
theorem find_yes (l : List (Int × Int)) (k : Nat) (h : k < l.length) (h1 : l[k].2 = 2) : findG (l.drop k) = (l[k].1, true) := by
  rw [List.drop_eq_getElem_cons h]; simp [findG, h1]
theorem find_no (l : List (Int × Int)) (k : Nat) (h : k < l.length) (h1 : ¬ l[k].2 = 2) : findG (l.drop k) = findG (l.drop (k + 1)) := by
  rw [List.drop_eq_getElem_cons h]; simp [findG, h1]

theorem ret_begin {a : Int} {b : Bool} {x : Int × Bool} (h : x = (a, b)) : Ending.returned (.tuple #[.int .i64 a, .bool b]) = .returned (.tuple #[.int .i64 x.1, .bool x.2]) := by rw [h]

set_option maxRecDepth 20000 in
set_option maxHeartbeats 4000000 in
theorem rbegin_any (c : Cfg) (sa ta : Option Addr) (sc tc : Nat) (w : World) (hin : c.In w sa ta) :
    Calls Try.prog 21 #[.agg (c.cells sa ta sc tc)] w fun e w' => e = .returned (.tuple #[.int .i64 (findG c.tab).1, .bool (findG c.tab).2]) ∧ Below w.heap.size w w' := by
  have hr0 := hin.tab.below ((Below.refl _ _).alloc (Nat.le_refl _) (.cells (c.cells sa ta sc tc) 34))
  have hm := hin.nt
  unfold maxLen at hm
  have HB := Lib.hid (Blk.new w (c.cells sa ta sc tc) 34 w.heap.size rfl)
  have HW := Lib.hid (show Below w.heap.size w (w.alloc (.cells (c.cells sa ta sc tc) 34)) from (Below.refl _ _).alloc (Nat.le_refl _) _)
  unfold Cfg.cells at *
  go_enter Try.func21, Try.ntmps21
  go_wp2_with fail
  have hc1 := HB.out.cell 1 rfl
  generalize w.alloc (.cells _ _) = W at HB HW hr0 hc1 ⊢
  go_loopw [4] (fun i wr => ∃ k : Nat, k ≤ c.tab.length ∧ i = .int .i64 k ∧ findG (c.tab.drop k) = findG c.tab ∧ wr = W) (fun i _ => c.tab.length - (intOf i).toNat)
  case atStart => exact ⟨0, by omega, rfl, rfl, rfl⟩
  case round =>
    obtain ⟨k, hk, rfl, hf, rfl⟩ := hrel
    have HF := Lib.hid hf
    clear hf
    by_cases hlt : k < c.tab.length
    · obtain ⟨b, off, rfl, hbl, hd1, hd2⟩ := hr0 k hlt
      have HY := Lib.hid (find_yes c.tab k hlt)
      have HN := Lib.hid (find_no c.tab k hlt)
      clear hr0
      generalize c.tab[k] = r at hd1 hd2 HY HN
      obtain ⟨t, p⟩ := r
      dsimp only at hd1 hd2
      by_cases hp : p = 2
      · subst hp
        have HE := Lib.hid (show findG c.tab = (t, true) by rw [← HF.out]; exact HY.out rfl)
        go_wp2_with fail
        go_ret2
        exact ⟨ret_begin HE.out, HW.out⟩
      · have g1 : (p == 2) = false := by simpa using hp
        go_wp2_with fail
        go_roundw
        case rel => exact ⟨k + 1, by omega, by go_num, by rw [← HN.out hp]; exact HF.out, by first | rfl | trivial⟩
        case measure => simp [intOf]; omega
    · have hk2 : k = c.tab.length := by omega
      have HE := Lib.hid (show findG c.tab = (0, false) by rw [← HF.out, hk2, List.drop_length]; rfl)
      clear hr0
      go_wp2_with fail
      go_ret2
      exact ⟨ret_begin HE.out, HW.out⟩

theorem is_open (t p : Int) (w : World) : Calls Try.prog 69 #[.agg #[.int .i64 t, .int .i64 p]] w fun e w' => e = .returned (.bool (p == 2)) ∧ Below w.heap.size w w' := by
  have HW := Lib.hid (show Below w.heap.size w (w.alloc (.cells #[.int .i64 t, .int .i64 p] 140)) from (Below.refl _ _).alloc (Nat.le_refl _) _)
  go_enter Try.func69, Try.ntmps69
  go_wp2_with fail
  go_ret
  exact ⟨rfl, HW.out⟩

/-- The first row's place, or -1. -/
def placeG : List (Int × Int) → Nat → Int
  | [], _ => -1
  | (_, p) :: l, i => if p = 2 then (i : Int) else placeG l (i + 1)
theorem place_yes (l : List (Int × Int)) (k : Nat) (h : k < l.length) (h1 : l[k].2 = 2) : placeG (l.drop k) k = (k : Int) := by
  rw [List.drop_eq_getElem_cons h]; simp [placeG, h1]
theorem place_no (l : List (Int × Int)) (k : Nat) (h : k < l.length) (h1 : ¬ l[k].2 = 2) : placeG (l.drop k) k = placeG (l.drop (k + 1)) (k + 1) := by
  rw [List.drop_eq_getElem_cons h]; simp [placeG, h1]

set_option maxRecDepth 20000 in
set_option maxHeartbeats 4000000 in
theorem index_any (a : Option Addr) (cap : Nat) (l : List (Int × Int)) (w : World) (hm : l.length ≤ maxLen) (hr : TabRow w a l) :
    Calls Try.prog 68 #[.slice a l.length cap, .func (.func 69) #[] #[]] w fun e w' => e = .returned (.int .i64 (placeG l 0)) ∧ Below w.heap.size w w' := by
  unfold maxLen at hm
  go_enter Try.func68, Try.ntmps68
  go_wp2_with fail
  go_loopw [8] (fun i wr => ∃ k : Nat, k ≤ l.length ∧ i = .int .i64 k ∧ placeG (l.drop k) k = placeG l 0 ∧ Below w.heap.size w wr) (fun i _ => l.length - (intOf i).toNat)
  case atStart => exact ⟨0, by omega, rfl, rfl, Below.refl _ _⟩
  case round =>
    obtain ⟨k, hk, rfl, hf, hb⟩ := hrel
    have HF := Lib.hid hf
    clear hf
    by_cases hlt : k < l.length
    · have hr1 := hr.below hb
      obtain ⟨b, off, rfl, hbl, hd1, hd2⟩ := hr1 k hlt
      have HY := Lib.hid (place_yes l k hlt)
      have HN := Lib.hid (place_no l k hlt)
      have HB := Lib.hid hb
      clear hr hr1 hb
      generalize l[k] = r at hd1 hd2 HY HN
      obtain ⟨t, p⟩ := r
      dsimp only at hd1 hd2
      have HI := Lib.hid (is_open t p wr)
      by_cases hp : p = 2
      · subst hp
        have HE := Lib.hid (show placeG l 0 = (k : Int) by rw [← HF.out]; exact HY.out rfl)
        go_wp2_with fail
        refine HI.out.mono ?_
        rintro e w1 ⟨rfl, hb1⟩
        go_wp2_with fail
        go_ret
        exact ⟨ret_int HE.out.symm, HB.out.trans (hb1.mono HB.out.size)⟩
      · have g1 : (p == 2) = false := by simpa using hp
        go_wp2_with fail
        refine HI.out.mono ?_
        rintro e w1 ⟨rfl, hb1⟩
        go_wp2_with fail
        go_roundw
        case rel => exact ⟨k + 1, by omega, by go_num, by rw [← HN.out hp]; exact HF.out, HB.out.trans (hb1.mono HB.out.size)⟩
        case measure => simp [intOf]; omega
    · have hk2 : k = l.length := by omega
      have HE := Lib.hid (show placeG l 0 = -1 by rw [← HF.out, hk2, List.drop_length]; rfl)
      clear hr
      go_wp2_with fail
      go_ret
      exact ⟨ret_int HE.out.symm, hb⟩

theorem place_find (l : List (Int × Int)) (i : Nat) : (placeG l i = -1 ∧ findG l = (0, false)) ∨ ∃ k, ∃ h : k < l.length, placeG l i = ((i + k : Nat) : Int) ∧ findG l = (l[k].1, true) := by
  induction l generalizing i with
  | nil => exact .inl ⟨rfl, rfl⟩
  | cons r l ih =>
    obtain ⟨t, p⟩ := r
    by_cases hp : p = 2
    · exact .inr ⟨0, by simp, by simp [placeG, hp], by simp [findG, hp]⟩
    · rcases ih (i + 1) with ⟨h1, h2⟩ | ⟨k, hk, h1, h2⟩
      · exact .inl ⟨by simp [placeG, hp, h1], by simp [findG, hp, h2]⟩
      · exact .inr ⟨k + 1, by simp; omega, by simp [placeG, hp, h1]; omega, by simp [findG, hp, h2]⟩

set_option maxRecDepth 20000 in
set_option maxHeartbeats 4000000 in
theorem begin_any (c : Cfg) (sa ta : Option Addr) (sc tc : Nat) (w : World) (hin : c.In w sa ta) :
    Calls Try.prog 20 #[.agg (c.cells sa ta sc tc)] w fun e w' => e = .returned (.tuple #[.int .i64 (findG c.tab).1, .bool (findG c.tab).2]) ∧ Below w.heap.size w w' := by
  have hr0 := hin.tab.below ((Below.refl _ _).alloc (Nat.le_refl _) (.cells (c.cells sa ta sc tc) 34))
  have hm := hin.nt
  have HB := Lib.hid (Blk.new w (c.cells sa ta sc tc) 34 w.heap.size rfl)
  have HW := Lib.hid (show Below w.heap.size w (w.alloc (.cells (c.cells sa ta sc tc) 34)) from (Below.refl _ _).alloc (Nat.le_refl _) _)
  unfold Cfg.cells at *
  have HI := Lib.hid (index_any ta tc c.tab _ hm hr0)
  have HR := Lib.hid hr0
  clear hin hr0
  unfold maxLen at hm
  go_enter Try.func20, Try.ntmps20
  go_wp2_with fail
  refine HI.out.mono ?_
  rintro e w1 ⟨rfl, hb1⟩
  have hr1 := HR.out.below hb1
  have hc1 : w1.cell? ⟨w.heap.size, 1, none⟩ = some (.slice ta c.tab.length tc) := (HB.out.below hb1 HB.out.lt).cell 1 rfl
  have HW1 := Lib.hid (HW.out.trans (hb1.mono (by simp)))
  clear hb1 HI HR
  rcases place_find c.tab 0 with ⟨h1, h2⟩ | ⟨k, hk, h1, h2⟩
  · rw [h1]
    have HE := Lib.hid h2
    clear h1 h2 hr1
    go_wp2_with fail
    go_ret2
    exact ⟨ret_begin HE.out, HW1.out⟩
  · rw [h1, Nat.zero_add]
    obtain ⟨b, off, rfl, hbl, hd1, hd2⟩ := hr1 k hk
    have HE := Lib.hid h2
    clear h1 h2 hr1
    generalize c.tab[k] = r at hd1 hd2 HE
    obtain ⟨t, p⟩ := r
    dsimp only at hd1 hd2
    go_wp2_with fail
    go_ret2
    exact ⟨ret_begin HE.out, HW1.out⟩
end Go.Proofs.Ytogjgpiddjmpiaa.Begin
