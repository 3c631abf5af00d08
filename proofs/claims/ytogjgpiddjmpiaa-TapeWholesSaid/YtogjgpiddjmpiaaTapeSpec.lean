/- Trades, and bars of them, in plain numbers. -/
import Derived.Test.YtogjgpiddjmpiaaMsg
namespace Go.Proofs.Ytogjgpiddjmpiaa.Tape
set_option linter.unusedVariables false
open Go.RowKit Go.Proofs.Ytogjgpiddjmpiaa.Kit Go.Proofs.Ytogjgpiddjmpiaa.Blk Go.Proofs.Ytogjgpiddjmpiaa.Msgs

structure Bar where
  frm : Int
  opn : Int
  high : Int
  low : Int
  cls : Int
  vol : Int
  trd : Int
  mean : Int
def Bar.cells (b : Bar) : Array Value := #[.int .i64 b.frm, .int .i64 b.opn, .int .i64 b.high, .int .i64 b.low, .int .i64 b.cls, .int .i64 b.vol, .int .i64 b.trd, .int .i64 b.mean]
def Bar.zero : Bar := ⟨0, 0, 0, 0, 0, 0, 0, 0⟩
/-- A maker: a bar, and the worth of its trades. -/
def mk (b : Bar) (x : Nat) : Array Value := #[.int .i64 b.frm, .int .i64 b.opn, .int .i64 b.high, .int .i64 b.low, .int .i64 b.cls, .int .i64 b.vol, .int .i64 b.trd, .int .i64 b.mean,
  .int .u64 ((x / 18446744073709551616 : Nat) : Int), .int .u64 ((x % 18446744073709551616 : Nat) : Int)]
/-- What counts. -/
def isT (sym : Int) (m : Msg) : Bool := decide (m.kind = 3) && decide (m.sym = sym) && decide (1 ≤ m.price) && decide (m.price ≤ 1099511627776) && decide (1 ≤ m.qty) && decide (m.qty ≤ 4294967296) && decide (0 ≤ m.tick) && decide (m.tick ≤ 9223372036854775807)
structure Good (m : Msg) : Prop where
  p1 : 1 ≤ m.price
  p2 : m.price ≤ 1099511627776
  q1 : 1 ≤ m.qty
  q2 : m.qty ≤ 4294967296
  t1 : 0 ≤ m.tick
  t2 : m.tick ≤ 9223372036854775807
theorem good_of {sym : Int} {m : Msg} (h : isT sym m = true) : Good m := by
  simp [isT] at h
  exact ⟨h.1.1.1.1.1.2, h.1.1.1.1.2, h.1.1.1.2, h.1.1.2, h.1.2, h.2⟩
def wo (m : Msg) : Nat := (m.price * m.qty).toNat
theorem wo_le {m : Msg} (h : Good m) : (wo m : Int) = m.price * m.qty ∧ wo m ≤ 4722366482869645213696 := by
  have h1 := Int.mul_le_mul h.p2 h.q2 (by have := h.q1; omega) (by decide)
  have h2 : 0 ≤ m.price * m.qty := Int.mul_nonneg (by have := h.p1; omega) (by have := h.q1; omega)
  unfold wo
  omega
/-- The bar before its first trade is laid anew. -/
def firstF (b : Bar) (f : Int) (m : Msg) : Bar := if b.trd = 0 then ⟨f, m.price, m.price, m.price, 0, 0, 0, 0⟩ else b
def nextF (b : Bar) (m : Msg) : Bar := ⟨b.frm, b.opn, max b.high m.price, min b.low m.price, m.price, b.vol + m.qty, b.trd + 1, b.mean⟩
/-- One trade more. -/
def addF (b : Bar) (f : Int) (m : Msg) : Bar := nextF (firstF b f m) m
end Go.Proofs.Ytogjgpiddjmpiaa.Tape
