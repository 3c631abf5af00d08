/- A watch, in plain numbers: what it knows, and what a message comes to. -/
import Derived.Test.YtggkhnmhhifniaaSym
import Derived.Test.YtggkhnmhhifniaaBlk
namespace Go.Proofs.Ytggkhnmhhifniaa.Watch
open Go.RowKit Go.Proofs.Ytggkhnmhhifniaa.Kit Go.Proofs.Ytggkhnmhhifniaa.Symbol

structure Msg where
  kind : Int
  sym : Int
  seq : Int
  tick : Int
  id : Int
  wth : Int
  price : Int
  qty : Int
  code : Int
def Msg.cells (m : Msg) : Array Value := #[.int .i64 m.kind, .int .i64 m.sym, .int .i64 m.seq, .int .i64 m.tick, .int .i64 m.id, .int .i64 m.wth, .int .i64 m.price, .int .i64 m.qty, .int .i64 m.code]

/-- What is known of a symbol. -/
structure Kn where
  phase : Int
  blo : Int
  bhi : Int
  clo : Int
  chi : Int
  deadline : Int
  t0 : Int
  t1 : Int
  t2 : Int
  t3 : Int
def Kn.zero : Kn := ⟨0, 0, 0, 0, 0, 0, 0, 0, 0, 0⟩
def Kn.cells (k : Kn) : Array Value := #[.int .i64 k.phase, .int .i64 k.blo, .int .i64 k.bhi, .int .i64 k.clo, .int .i64 k.chi, .int .i64 k.deadline, .int .i64 k.t0, .int .i64 k.t1, .int .i64 k.t2, .int .i64 k.t3]
/-- A row of the program's: the symbol, and what is known of it. -/
def rowCells (s : Sym) (k : Kn) : Array Value :=
  #[.int .i64 s.grid, .int .i64 s.ref, .int .i64 s.static, .int .i64 s.dynamic, .int .i64 s.window, .int .i64 s.move, .int .i64 s.limit, .int .i64 s.pause, .int .i64 s.ext, .int .i64 s.maxExt, .int .i64 s.collar, .int .i64 s.widen, .int .i64 s.self, .int .i64 s.slots, .int .i64 s.levels, .int .i64 s.short,
    .int .i64 k.phase, .int .i64 k.blo, .int .i64 k.bhi, .int .i64 k.clo, .int .i64 k.chi, .int .i64 k.deadline, .int .i64 k.t0, .int .i64 k.t1, .int .i64 k.t2, .int .i64 k.t3]

def tooLate (t : Int) (k : Kn) : Bool := (k.deadline != 0) && decide (k.deadline < t)
def lateF (ks : List Kn) (tick t : Int) : Bool := decide (t < tick) || ks.any (tooLate t)
def openF (k : Kn) (code : Int) : Bool :=
  if code = 1 then k.phase == 2 else if code = 3 then (k.phase == 1) || (k.phase == 4) else if code = 2 then k.phase == 4 else false
def inBand (lo hi p : Int) : Bool := decide (lo ≤ p) && decide (p ≤ hi)
def inF (k : Kn) (m : Msg) : Bool :=
  if m.code = 1 then inBand k.blo k.bhi m.price else if m.code = 2 then inBand k.clo k.chi m.price else Fix.price m.price 1 == 0
def globalF (m : Msg) : Bool := (m.kind == 2) || (m.kind == 9)

/-- The fault of a message: of what is known of its symbol, if there is one. -/
def faultF (ks : List Kn) (seq tick : Int) (k : Option Kn) (m : Msg) : Int :=
  if !(m.seq == wrap64 (seq + 1)) then 4 else if lateF ks tick m.tick then 15 else if !(k.isSome || globalF m) then 5
  else if !(!(m.kind == 3) || decide (1 ≤ m.qty)) then 9 else if !(!(m.kind == 3) || openF (k.getD Kn.zero) m.code) then 10
  else if !(!(m.kind == 3) || inF (k.getD Kn.zero) m) then 11 else 0
end Go.Proofs.Ytggkhnmhhifniaa.Watch
