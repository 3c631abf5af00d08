/- A ledger's methods: what holds while a message is put; plus. -/
import Derived.Test.YtmkcooamgojbpaaLedFill
import Derived.Test.YtmkcooamgojbpaaMsgOne
namespace Go.Proofs.Ytmkcooamgojbpaa.Ledger
open Go.RowKit Go.Proofs.Ytmkcooamgojbpaa.Kit Go.Proofs.Ytmkcooamgojbpaa.Blk Go.Proofs.Ytmkcooamgojbpaa.Mp Go.Proofs.Ytmkcooamgojbpaa.Qty Go.Proofs.Ytmkcooamgojbpaa.Msgs
attribute [local go_sem ↓] Go.wp_at_zero Go.wp_at_succ
set_option linter.unusedVariables false

/-- Below number n nothing has changed but the three maps. -/
structure Chg3 (n b1 b2 b3 : Nat) (w w' : World) : Prop where
  os : w'.os = w.os
  tape : w'.tape = w.tape
  output : w'.output = w.output
  size : w.heap.size ≤ w'.heap.size
  block : ∀ k, k < n → k ≠ b1 → k ≠ b2 → k ≠ b3 → w'.heap[k]? = w.heap[k]?
section
variable {n b1 b2 b3 : Nat} {a w w' : World}
theorem Chg3.refl (n b1 b2 b3 : Nat) (w : World) : Chg3 n b1 b2 b3 w w := ⟨rfl, rfl, rfl, Nat.le_refl _, fun _ _ _ _ _ => rfl⟩
theorem Chg3.trans {b c : World} (h : Chg3 n b1 b2 b3 a b) (k : Chg3 n b1 b2 b3 b c) : Chg3 n b1 b2 b3 a c :=
  ⟨k.os.trans h.os, k.tape.trans h.tape, k.output.trans h.output, Nat.le_trans h.size k.size, fun i hi h1 h2 h3 => (k.block i hi h1 h2 h3).trans (h.block i hi h1 h2 h3)⟩
theorem Chg3.mono {n' : Nat} (h : Chg3 n b1 b2 b3 w w') (hn : n' ≤ n) : Chg3 n' b1 b2 b3 w w' := ⟨h.os, h.tape, h.output, h.size, fun k hk => h.block k (Nat.lt_of_lt_of_le hk hn)⟩
theorem Chg3.of {d : Nat} (h : Chg n d w w') (hd : d = b1 ∨ d = b2 ∨ d = b3) : Chg3 n b1 b2 b3 w w' := ⟨h.os, h.tape, h.output, h.size, fun k hk h1 h2 h3 => h.block k hk (by rcases hd with rfl | rfl | rfl <;> assumption)⟩
theorem Chg3.below (h : Below n w w') : Chg3 n b1 b2 b3 w w' := ⟨h.os, h.tape, h.output, h.size, fun k hk _ _ _ => h.block k hk⟩
theorem Chg3.step {w2 : World} (h : Chg3 n b1 b2 b3 a w) (k : Below n w w2) : Chg3 n b1 b2 b3 a w2 := h.trans (Chg3.below k)
theorem Chg3.alloc (h : Chg3 n b1 b2 b3 a w) (hn : n ≤ w.heap.size) (o : Obj) : Chg3 n b1 b2 b3 a (w.alloc o) := h.step ((Below.refl _ _).alloc hn o)
theorem Chg3.drew (h : Chg3 n b1 b2 b3 a w) : Chg3 n b1 b2 b3 a w.drew := h.step (Below.refl _ _).drew
theorem Chg3.blk {B : Nat} {cs : Array Value} {T : TypeId} (h : Chg3 n b1 b2 b3 w w') (hB : B < n) (h1 : B ≠ b1) (h2 : B ≠ b2) (h3 : B ≠ b3) (hb : Blk w B cs T) : Blk w' B cs T := by
  unfold Blk; rw [h.block B hB h1 h2 h3]; exact hb
theorem Chg3.setCells {B : Nat} (h : Chg3 n b1 b2 b3 a w) (hB : n ≤ B) (vs : List Value) (o : Nat) : Chg3 n b1 b2 b3 a (w.setCells B o vs) := h.step (Blk.Below.setCells vs o w (Below.refl _ _) hB)
end
/-- While a message is put: the ledger, the boxed message, the key; what has changed. -/
structure St (w : World) (D b1 b2 b3 : Nat) (L : Led) (m : Msg) (k : Key) (W : World) : Prop where
  ls : LS W D b1 b2 b3 L
  mb : Blk W w.heap.size m.cells 33
  kb : Blk W (w.heap.size + 1) (keyC k) 60
  chg : Chg3 w.heap.size b1 b2 b3 w W
  old : D < w.heap.size ∧ b1 < w.heap.size ∧ b2 < w.heap.size ∧ b3 < w.heap.size
section
variable {w W W' : World} {D b1 b2 b3 : Nat} {L : Led} {m : Msg} {k : Key}
theorem St.drew (h : St w D b1 b2 b3 L m k W) : St w D b1 b2 b3 L m k W.drew := ⟨h.ls.drew, h.mb, h.kb, h.chg.drew, h.old⟩
theorem St.alloc (h : St w D b1 b2 b3 L m k W) (o : Obj) : St w D b1 b2 b3 L m k (W.alloc o) := ⟨h.ls.alloc o, h.mb.old o, h.kb.old o, h.chg.alloc h.chg.size o, h.old⟩
theorem St.below (h : St w D b1 b2 b3 L m k W) (hb : Below W.heap.size W W') : St w D b1 b2 b3 L m k W' := ⟨h.ls.below hb, h.mb.below hb h.mb.lt, h.kb.below hb h.kb.lt, h.chg.step (hb.mono h.chg.size), h.old⟩
theorem St.cells (h : St w D b1 b2 b3 L m k W) {B : Nat} {T : TypeId} {cs : Array Value} (hB : Blk W B cs T) (hlt : w.heap.size + 1 < B) (vs : List Value) (o : Nat) : St w D b1 b2 b3 L m k (W.setCells B o vs) :=
  have h1 := h.old
  ⟨h.ls.cells hB (by omega) vs o, h.mb.apartAll vs o W (by omega), h.kb.apartAll vs o W (by omega), h.chg.setCells (by omega) vs o, h.old⟩
theorem St.ls' (h : St w D b1 b2 b3 L m k W) {L' : Led} {d : Nat} (hd : d = b1 ∨ d = b2 ∨ d = b3) (hl : LS W' D b1 b2 b3 L') (hc : Chg W.heap.size d W W') : St w D b1 b2 b3 L' m k W' :=
  have h1 := h.old
  ⟨hl, hc.blk h.mb.lt (by omega) h.mb, hc.blk h.kb.lt (by omega) h.kb, h.chg.trans ((Chg3.of hc hd).mono h.chg.size), h.old⟩
/-- At the beginning: the message boxed, the key made. -/
theorem St.start (h : LS w D b1 b2 b3 L) (m : Msg) (k : Key) : St w D b1 b2 b3 L m k ((w.alloc (.cells m.cells 33)).alloc (.cells (keyC k) 60)) :=
  ⟨(h.alloc _).alloc _, (Blk.new w _ _ w.heap.size rfl).old _, Blk.new _ _ _ (w.heap.size + 1) (by simp), ((Chg3.refl _ _ _ _ _).alloc (Nat.le_refl _) _).alloc (by simp) _, h.box.lt, h.m1.lt, h.m2.lt, h.m3.lt⟩
end
/-- What putting answers. -/
def PutIs (f : Int) (L' : Led) (D b1 b2 b3 : Nat) (w : World) (e : Ending) (w' : World) : Prop := e = .returned (.int .i64 f) ∧ LS w' D b1 b2 b3 L' ∧ Chg3 w.heap.size b1 b2 b3 w w'
def plusA (a b : Acc) : Acc := ⟨a.asked + b.asked, a.filled + b.filled, a.gone + b.gone, a.rest + b.rest⟩
theorem plus_any (a b : Acc) (ha : AccIn 1152921504606846976 a) (hb : AccIn 1152921504606846976 b) (w : World) : Calls Try.prog 25 #[.agg a.cells, .agg b.cells] w fun e w' => e = .returned (.agg (plusA a b).cells) ∧ Below w.heap.size w w' := by
  obtain ⟨⟨h1, h2⟩, ⟨h3, h4⟩, ⟨h5, h6⟩, h7, h8⟩ := ha
  obtain ⟨⟨g1, g2⟩, ⟨g3, g4⟩, ⟨g5, g6⟩, g7, g8⟩ := hb
  unfold Acc.cells
  go_enter Try.func25, Try.ntmps25
  go_wp2_with fail
  have HX := Lib.hid (Blk.new ((w.alloc (.cells a.cells 41)).alloc (.cells b.cells 41)) (plusA a b).cells 41 (w.heap.size + 1 + 1) (by simp))
  have HB := Lib.hid (show Below w.heap.size w (((w.alloc (.cells a.cells 41)).alloc (.cells b.cells 41)).alloc (.cells (plusA a b).cells 41)) from (((Below.refl _ _).alloc (Nat.le_refl _) _).alloc (by simp) _).alloc (by simp; omega) _)
  refine bodyPost_ret (results_cell_row rfl _ _ _ _ _ (0, 0) _ rfl HX.out Try.underlying41 rfl (by kernel_rfl)) rfl ?_
  exact ⟨rfl, HB.out⟩
end Go.Proofs.Ytmkcooamgojbpaa.Ledger
