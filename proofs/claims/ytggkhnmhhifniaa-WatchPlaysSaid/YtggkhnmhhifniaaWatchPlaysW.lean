/- The walk of damperlaw32.WatchPlays: it returns true, and writes nothing that was there. -/
import Derived.Test.YtggkhnmhhifniaaWatchAlls
import Derived.Test.YtggkhnmhhifniaaWatchBand
import Derived.ChangeKeysEq
namespace Go.Proofs.Ytggkhnmhhifniaa.Watch
open Go.RowKit Go.Proofs.Ytggkhnmhhifniaa.Kit Go.Proofs.Ytggkhnmhhifniaa.Blk Go.Proofs.Ytggkhnmhhifniaa.Symbol Go.Proofs.Ytggkhnmhhifniaa.Check
attribute [local go_sem ↓] Go.wp_at_zero Go.wp_at_succ

/-- Both watches, and what came in, as they lie between two messages. -/
structure Both (w wr : World) (P L rc Q M qc : Nat) (c : Cfg) (sa ta : Option Addr) (sc tc : Nat) (a : Option Addr) (l : List Msg) (ks : List Kn) (seq tick : Int) : Prop where
  pw : PW wr P L rc c.syms ks seq tick
  rw : RW wr Q M qc c sa ta sc tc ks seq tick
  below : Below w.heap.size w wr
  row : MsgRow w a l
  hP : w.heap.size ≤ P
  hL : w.heap.size ≤ L
  hQ : w.heap.size ≤ Q
  hM : w.heap.size ≤ M
  apart : P ≠ Q ∧ P ≠ M ∧ L ≠ Q ∧ L ≠ M

section
variable {w wr wx : World} {P L rc Q M qc : Nat} {c : Cfg} {sa ta : Option Addr} {sc tc : Nat} {a : Option Addr} {l : List Msg} {ks ks' : List Kn} {seq tick seq' tick' : Int}
theorem Both.step (h : Both w wr P L rc Q M qc c sa ta sc tc a l ks seq tick) (hb : Below wr.heap.size wr wx) : Both w wx P L rc Q M qc c sa ta sc tc a l ks seq tick :=
  ⟨h.pw.below hb, h.rw.below hb, h.below.trans (hb.mono h.below.size), h.row, h.hP, h.hL, h.hQ, h.hM, h.apart⟩
theorem Both.drew (h : Both w wr P L rc Q M qc c sa ta sc tc a l ks seq tick) : Both w wr.drew P L rc Q M qc c sa ta sc tc a l ks seq tick := h.step (Below.refl _ _).drew
end

def Both.Put (w wx : World) (P L rc Q M qc : Nat) (c : Cfg) (sa ta : Option Addr) (sc tc : Nat) (a : Option Addr) (l : List Msg) (ks : List Kn) (seq tick : Int) (m : Msg) : Prop :=
  if faultF ks seq tick (kOf ks m.sym) m = 0 then Both w wx P L rc Q M qc c sa ta sc tc a l (tellAll c.syms ks m) m.seq m.tick else Both w wx P L rc Q M qc c sa ta sc tc a l ks seq tick
theorem both_put {w wr w2 w3 : World} {P L rc Q M qc : Nat} {c : Cfg} {sa ta : Option Addr} {sc tc : Nat} {a : Option Addr} {l : List Msg} {ks : List Kn} {seq tick : Int} {m : Msg} (h : Both w wr P L rc Q M qc c sa ta sc tc a l ks seq tick)
    (hf : rfaultF ks seq tick m = faultF ks seq tick (kOf ks m.sym) m)
    (hc2 : Chg2 wr.heap.size P L wr w2) (hp2 : if faultF ks seq tick (kOf ks m.sym) m = 0 then PW w2 P L rc c.syms (tellAll c.syms ks m) m.seq m.tick else PW w2 P L rc c.syms ks seq tick)
    (hc3 : Chg2 w2.heap.size Q M w2 w3) (hp3 : if rfaultF ks seq tick m = 0 then RW w3 Q M qc c sa ta sc tc (tellAll c.syms ks m) m.seq m.tick else RW w3 Q M qc c sa ta sc tc ks seq tick) :
    Both.Put w w3 P L rc Q M qc c sa ta sc tc a l ks seq tick m := by
  have hb := h.below.size
  have h1 := h.hP
  have h2 := h.hL
  have h3 := h.hQ
  have h4 := h.hM
  have hb2 : Below w.heap.size w w2 := h.below.trans ⟨hc2.os, hc2.tape, hc2.output, hc2.size, fun j hj => hc2.block j (by omega) (by omega) (by omega)⟩
  have hb3 : Below w.heap.size w w3 := hb2.trans ⟨hc3.os, hc3.tape, hc3.output, hc3.size, fun j hj => hc3.block j (by have := hb2.size; omega) (by omega) (by omega)⟩
  have keep : ∀ {kk : List Kn} {s t : Int}, PW w2 P L rc c.syms kk s t → PW w3 P L rc c.syms kk s t := fun {kk s t} hp => by
    obtain ⟨a1, a2, a3, a4⟩ := h.apart
    have hP := hp.head.lt
    have hL := hp.lt
    refine ⟨hc3.blk hP a1 a2 hp.head, fun i hi j v hv => ?_, fun j => ?_, hp.len, hp.ne, Nat.lt_of_lt_of_le hL hc3.size, hp.few⟩
    · rw [hc3.cell (p := ⟨L, _, none⟩) hL a3 a4]; exact hp.row i hi j v hv
    · rw [World.frozen?_of_block (hc3.block L hL a3 a4)]; exact hp.free j
  unfold Both.Put
  rw [hf] at hp3
  by_cases h0 : faultF ks seq tick (kOf ks m.sym) m = 0
  · rw [if_pos h0] at hp2 hp3 ⊢
    exact ⟨keep hp2, hp3, hb3, h.row, h1, h2, h3, h4, h.apart⟩
  · rw [if_neg h0] at hp2 hp3 ⊢
    exact ⟨keep hp2, hp3, hb3, h.row, h1, h2, h3, h4, h.apart⟩
theorem both_rw {w wr w2 : World} {P L rc Q M qc : Nat} {c : Cfg} {sa ta : Option Addr} {sc tc : Nat} {a : Option Addr} {l : List Msg} {ks : List Kn} {seq tick : Int} (h : Both w wr P L rc Q M qc c sa ta sc tc a l ks seq tick)
    (hsa : ∀ b off, sa = some ⟨b, off, none⟩ → b < w.heap.size) (hc2 : Chg2 wr.heap.size P L wr w2) : RW w2 Q M qc c sa ta sc tc ks seq tick ∧ Below w.heap.size w w2 := by
  have hb := h.below.size
  have h1 := h.hP
  have h2 := h.hL
  obtain ⟨a1, a2, a3, a4⟩ := h.apart
  exact ⟨h.rw.chg2 hc2 (Ne.symm a1) (Ne.symm a3) (Ne.symm a2) (Ne.symm a4) (fun b off e => by have := hsa b off e; omega),
    h.below.trans ⟨hc2.os, hc2.tape, hc2.output, hc2.size, fun j hj => hc2.block j (by omega) (by omega) (by omega)⟩⟩

theorem neq_band (x y : Int) (w : World) : (binOp .neq 45 (.agg #[.int .i64 x, .int .i64 y]) (.agg #[.int .i64 x, .int .i64 y])).run Try.prog w = .ok (.bool false) w := by go_simp
theorem info64 : ∃ i, Try.prog.info? 2 = some i := by
  have h : (Try.prog.info? 2).isSome = true := by kernel_rfl
  exact Option.isSome_iff_exists.1 h
theorem cells64 : Try.prog.cellsOf 2 = 1 := by kernel_rfl
theorem eql_int (d : Nat) (n : Int) (w : World) : (Op.equalIn (d + 1) 2 (.int .i64 n) (.int .i64 n)).run Try.prog w = .ok true w := by
  simp [Op.equalIn, run_underlying Try.underlying2]
theorem neq_four (x y z u : Int) (w : World) : (binOp .neq 46 (.agg #[.int .i64 x, .int .i64 y, .int .i64 z, .int .i64 u]) (.agg #[.int .i64 x, .int .i64 y, .int .i64 z, .int .i64 u])).run Try.prog w = .ok (.bool false) w := by
  obtain ⟨i, hi⟩ := info64
  have h := run_equalIn_array (P := Try.prog) (w := w) 9999 #[.int .i64 x, .int .i64 y, .int .i64 z, .int .i64 u] #[.int .i64 x, .int .i64 y, .int .i64 z, .int .i64 u] Try.underlying46 hi
  have he : ∀ (n : Int) (w : World), (Op.equalIn 9999 2 (.int .i64 n) (.int .i64 n)).run Try.prog w = .ok true w := fun n w => eql_int 9998 n w
  simp only [binOp, Op.equal, Op.maxDepth]
  rw [cells64] at h
  simp only [Nat.reduceAdd] at h
  simp [h, Op.eqItems, List.range, List.range.loop, part, he]
end Go.Proofs.Ytggkhnmhhifniaa.Watch
