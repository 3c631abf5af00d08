/- A ledger: its three maps in memory; owes, plus, New. -/
import Derived.Test.YtmkcooamgojbpaaMpE
import Derived.Test.YtmkcooamgojbpaaBlkRow
import Derived.Laws.StructEq
import Derived.Deep.RegionHeld3
import Derived.Deep.DeepCutAuto
import Derived.Deep.CutBlock
import Derived.Deep.DrawnRows
import Derived.Test.YtmkcooamgojbpaaStill
import Derived.Test.YtmkcooamgojbpaaVeil
import Derived.Test.YtmkcooamgojbpaaGrow
namespace Go.Proofs.Ytmkcooamgojbpaa.Ledger
open Go.RowKit Go.Proofs.Ytmkcooamgojbpaa.Kit Go.Proofs.Ytmkcooamgojbpaa.Blk Go.Proofs.Ytmkcooamgojbpaa.Mp
attribute [local go_sem ↓] Go.wp_at_zero Go.wp_at_succ
set_option linter.unusedVariables false

structure Acc where
  asked : Int
  filled : Int
  gone : Int
  rest : Int
def Acc.cells (a : Acc) : Array Value := #[.int .i64 a.asked, .int .i64 a.filled, .int .i64 a.gone, .int .i64 a.rest]
def acc0 : Acc := ⟨0, 0, 0, 0⟩
abbrev Key := Int × Int
def ke (k : Key) : Value := .agg #[.int .i64 k.1, .int .i64 k.2]
def va (a : Acc) : Value := .agg a.cells
def vi (n : Int) : Value := .int .i64 n
theorem key_eql (w : World) (a b : Key) : (Op.equal 60 (ke a) (ke b)).run Try.prog w = .ok (decide (a = b)) w := by
  obtain ⟨a1, a2⟩ := a
  obtain ⟨b1, b2⟩ := b
  have e : decide (((a1, a2) : Key) = (b1, b2)) = (decide (a1 = b1) && decide (a2 = b2)) := by
    rw [← Bool.decide_and, decide_eq_decide]; exact Prod.mk.injEq _ _ _ _ ▸ Iff.rfl
  rw [e]
  unfold ke
  simp only [Op.equal, Op.maxDepth]
  cases h1 : (a1 == b1) <;> cases h2 : (a2 == b2)
  all_goals
    have d1 : decide (a1 = b1) = _ := h1
    have d2 : decide (a2 = b2) = _ := h2
    rw [d1, d2]
    go_simp
theorem key_check (w : World) (em : Bool) (k : Key) : (Instr.checkKey em 10000 60 (ke k)).run Try.prog w = .ok () w := by kernel_rfl
theorem key_stays (w : World) (k : Key) : (Instr.keyThatStays (ke k) (ke k)).run Try.prog w = .ok (ke k) w := by
  have h : Instr.sameBits 10000 (ke k) (ke k) = true := by
    unfold ke
    simp [Instr.sameBits]
  simp [Instr.keyThatStays, h]
theorem key_ok : KeyOK Try.prog 60 ke :=
  keyOK_asked ke Try.underlying60 (fun _ _ => rfl) key_eql key_check key_stays
theorem int_check (w : World) (em : Bool) (k : Int) : (Instr.checkKey em 10000 3 (vi k)).run Try.prog w = .ok () w := by kernel_rfl
theorem int_stays (w : World) (k : Int) : (Instr.keyThatStays (vi k) (vi k)).run Try.prog w = .ok (vi k) w := by
  have h : Instr.sameBits 10000 (vi k) (vi k) = true := by
    unfold vi
    simp [Instr.sameBits]
  simp [Instr.keyThatStays, h]
theorem int_ok : KeyOK Try.prog 3 vi :=
  keyOK_now vi Try.underlying3 (fun a b => by simp only [Instr.sameNow, vi]; rfl) int_check int_stays
/-- What a ledger knows: accounts, early fills, sums put aside. -/
structure Led where
  now : List (Key × Acc)
  early : List (Key × Int)
  aside : List (Int × Acc)
/-- A ledger in block D, its maps in blocks b1, b2, b3. -/
structure LS (W : World) (D b1 b2 b3 : Nat) (L : Led) : Prop where
  box : Blk W D #[.map (some b1), .map (some b2), .map (some b3)] 51
  m1 : MapIs W b1 ke va L.now
  m2 : MapIs W b2 ke vi L.early
  m3 : MapIs W b3 vi va L.aside
  ne : b1 ≠ b2 ∧ b1 ≠ b3 ∧ b2 ≠ b3
section
variable {W W' : World} {D b1 b2 b3 : Nat} {L : Led}
theorem LS.below (h : LS W D b1 b2 b3 L) (hb : Below W.heap.size W W') : LS W' D b1 b2 b3 L := ⟨h.box.below hb h.box.lt, h.m1.below hb h.m1.lt, h.m2.below hb h.m2.lt, h.m3.below hb h.m3.lt, h.ne⟩
theorem LS.drew (h : LS W D b1 b2 b3 L) : LS W.drew D b1 b2 b3 L := ⟨h.box, h.m1, h.m2, h.m3, h.ne⟩
theorem LS.alloc (h : LS W D b1 b2 b3 L) (o : Obj) : LS (W.alloc o) D b1 b2 b3 L := ⟨h.box.old o, h.m1.old o, h.m2.old o, h.m3.old o, h.ne⟩
theorem LS.d1 (h : LS W D b1 b2 b3 L) : b1 ≠ D := h.m1.not_blk h.box
theorem LS.d2 (h : LS W D b1 b2 b3 L) : b2 ≠ D := h.m2.not_blk h.box
theorem LS.d3 (h : LS W D b1 b2 b3 L) : b3 ≠ D := h.m3.not_blk h.box
theorem LS.set1 (h : LS W D b1 b2 b3 L) {l : List (Key × Acc)} (hm : MapIs W' b1 ke va l) (hc : Chg W.heap.size b1 W W') : LS W' D b1 b2 b3 ⟨l, L.early, L.aside⟩ :=
  ⟨hc.blk h.box.lt h.d1.symm h.box, hm, h.m2.chg hc h.m2.lt h.ne.1.symm, h.m3.chg hc h.m3.lt h.ne.2.1.symm, h.ne⟩
theorem LS.set2 (h : LS W D b1 b2 b3 L) {l : List (Key × Int)} (hm : MapIs W' b2 ke vi l) (hc : Chg W.heap.size b2 W W') : LS W' D b1 b2 b3 ⟨L.now, l, L.aside⟩ :=
  ⟨hc.blk h.box.lt h.d2.symm h.box, h.m1.chg hc h.m1.lt h.ne.1, hm, h.m3.chg hc h.m3.lt h.ne.2.2.symm, h.ne⟩
theorem LS.set3 (h : LS W D b1 b2 b3 L) {l : List (Int × Acc)} (hm : MapIs W' b3 vi va l) (hc : Chg W.heap.size b3 W W') : LS W' D b1 b2 b3 ⟨L.now, L.early, l⟩ :=
  ⟨hc.blk h.box.lt h.d3.symm h.box, h.m1.chg hc h.m1.lt h.ne.2.1, h.m2.chg hc h.m2.lt h.ne.2.2, hm, h.ne⟩
theorem LS.cells (h : LS W D b1 b2 b3 L) {B : Nat} {T : TypeId} {cs : Array Value} (hB : Blk W B cs T) (hBD : B ≠ D) (vs : List Value) (o : Nat) : LS (W.setCells B o vs) D b1 b2 b3 L := by
  have key : ∀ {κ ν : Type} {k1 : κ → Value} {v1 : ν → Value} {l : List (κ × ν)} {b : Nat}, b ≠ B → ∀ (vs : List Value) (o : Nat) (W : World), MapIs W b k1 v1 l → MapIs (W.setCells B o vs) b k1 v1 l := by
    intro κ ν k1 v1 l b hb vs
    induction vs with
    | nil => intro o W h; exact h
    | cons v vs ih => intro o W h; exact ih (o + 1) _ (h.apart _ _ (Ne.symm hb))
  exact ⟨h.box.apartAll vs o W hBD, key (h.m1.not_blk hB) vs o W h.m1, key (h.m2.not_blk hB) vs o W h.m2, key (h.m3.not_blk hB) vs o W h.m3, h.ne⟩
end
theorem zero_acc (w : World) : (zeroValue 41).run Try.prog w = .ok (.agg #[.int .i64 0, .int .i64 0, .int .i64 0, .int .i64 0]) w := by kernel_rfl
theorem zero_i64 (w : World) : (zeroValue 2).run Try.prog w = .ok (.int .i64 0) w := by kernel_rfl
theorem look1 {W : World} {b : Nat} {l : List (Key × Acc)} (h : MapIs W b ke va l) (k1 k2 : Int) :
    (Instr.lookup 47 (.map (some b)) (.agg #[.int .i64 k1, .int .i64 k2]) true).run Try.prog W = .ok (.tuple #[.agg ((mget (k1, k2) l).getD acc0).cells, .bool (mget (k1, k2) l).isSome]) W := by
  have := run_look h key_ok Try.underlying47 (zero_acc W) (k1, k2) true
  show Sem.run _ (Instr.lookup _ _ (ke (k1, k2)) true) W = _
  rw [this]
  cases mget (k1, k2) l <;> rfl
theorem look1' {W : World} {b : Nat} {l : List (Key × Acc)} (h : MapIs W b ke va l) (k1 k2 : Int) :
    (Instr.lookup 47 (.map (some b)) (.agg #[.int .i64 k1, .int .i64 k2]) false).run Try.prog W = .ok (.agg ((mget (k1, k2) l).getD acc0).cells) W := by
  have := run_look h key_ok Try.underlying47 (zero_acc W) (k1, k2) false
  show Sem.run _ (Instr.lookup _ _ (ke (k1, k2)) false) W = _
  rw [this]
  cases mget (k1, k2) l <;> rfl
theorem look2 {W : World} {b : Nat} {l : List (Key × Int)} (h : MapIs W b ke vi l) (k1 k2 : Int) :
    (Instr.lookup 48 (.map (some b)) (.agg #[.int .i64 k1, .int .i64 k2]) false).run Try.prog W = .ok (.int .i64 ((mget (k1, k2) l).getD 0)) W := by
  have := run_look h key_ok Try.underlying48 (zero_i64 W) (k1, k2) false
  show Sem.run _ (Instr.lookup _ _ (ke (k1, k2)) false) W = _
  rw [this]
  cases mget (k1, k2) l <;> rfl
theorem look3 {W : World} {b : Nat} {l : List (Int × Acc)} (h : MapIs W b vi va l) (k : Int) :
    (Instr.lookup 49 (.map (some b)) (.int .i64 k) false).run Try.prog W = .ok (.agg ((mget k l).getD acc0).cells) W := by
  have := run_look h int_ok Try.underlying49 (zero_acc W) k false
  show Sem.run _ (Instr.lookup _ _ (vi k) false) W = _
  rw [this]
  cases mget k l <;> rfl
theorem put1 {W : World} {b : Nat} {l : List (Key × Acc)} (h : MapIs W b ke va l) (k1 k2 : Int) (a : Acc) :
    ∃ W', (Instr.mapUpdate 47 (.map (some b)) (.agg #[.int .i64 k1, .int .i64 k2]) (.agg a.cells)).run Try.prog W = .ok () W' ∧ MapIs W' b ke va (mput (k1, k2) a l) ∧ Chg W.heap.size b W W' ∧ W'.heap.size = W.heap.size :=
  run_put h key_ok Try.underlying47 (k1, k2) a
theorem put3 {W : World} {b : Nat} {l : List (Int × Acc)} (h : MapIs W b vi va l) (k : Int) (a : Acc) :
    ∃ W', (Instr.mapUpdate 49 (.map (some b)) (.int .i64 k) (.agg a.cells)).run Try.prog W = .ok () W' ∧ MapIs W' b vi va (mput k a l) ∧ Chg W.heap.size b W W' ∧ W'.heap.size = W.heap.size :=
  run_put h int_ok Try.underlying49 k a
theorem del2 {W : World} {b : Nat} {l : List (Key × Int)} (h : MapIs W b ke vi l) (k1 k2 : Int) (ty : TypeId) :
    ∃ W', (Builtin.delete_ #[48, 60] ty #[.map (some b), .agg #[.int .i64 k1, .int .i64 k2]]).run Try.prog W = .ok (.tuple #[]) W' ∧ MapIs W' b ke vi (mdel (k1, k2) l) ∧ Chg W.heap.size b W W' ∧ W'.heap.size = W.heap.size :=
  run_del h key_ok Try.underlying48 (k1, k2) _ ty rfl
theorem add2 {W : World} {b : Nat} {l : List (Key × Int)} (h : MapIs W b ke vi l) (k1 k2 v : Int) :
    ∃ (stamp : Int) (W1 W2 : World), (Instr.mapEntry 48 (.map (some b)) (.agg #[.int .i64 k1, .int .i64 k2])).run Try.prog W = .ok (.tuple #[.int .i64 ((mget (k1, k2) l).getD 0), .int .i64 stamp]) W1 ∧
      (Instr.entryStore 48 (.map (some b)) (.int .i64 stamp) (.int .i64 v)).run Try.prog W1 = .ok () W2 ∧ MapIs W2 b ke vi (mput (k1, k2) v l) ∧ Chg W.heap.size b W W1 ∧ Chg W.heap.size b W W2 ∧ W1.heap.size = W.heap.size ∧ W2.heap.size = W.heap.size ∧ ∃ l', MapIs W1 b ke vi l' ∧ (mget (k1, k2) l').getD 0 = (mget (k1, k2) l).getD 0 :=
  run_entry_store h key_ok Try.underlying48 (z := 0) zero_i64 (k1, k2) v
/- Accounts. -/
def owesA (a : Acc) : Int := a.asked - a.filled - a.gone - a.rest
/-- Numbers that are not too great. -/
def AccIn (n : Int) (a : Acc) : Prop := (0 ≤ a.asked ∧ a.asked ≤ n) ∧ (0 ≤ a.filled ∧ a.filled ≤ n) ∧ (0 ≤ a.gone ∧ a.gone ≤ n) ∧ (0 ≤ a.rest ∧ a.rest ≤ n)
theorem owes_any (a : Acc) (h : AccIn 1125899906842624 a) (w : World) : Calls Try.prog 26 #[.agg a.cells] w fun e w' => e = .returned (.int .i64 (owesA a)) ∧ Below w.heap.size w w' := by
  obtain ⟨⟨h1, h2⟩, ⟨h3, h4⟩, ⟨h5, h6⟩, h7, h8⟩ := h
  unfold Acc.cells owesA
  go_enter Try.func26, Try.ntmps26
  go_wp2_with fail
  go_ret
  exact ⟨rfl, (Below.refl _ _).alloc (Nat.le_refl _) _⟩
end Go.Proofs.Ytmkcooamgojbpaa.Ledger
