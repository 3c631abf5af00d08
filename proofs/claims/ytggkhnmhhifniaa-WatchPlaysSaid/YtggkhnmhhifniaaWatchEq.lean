/- The two watches' faults are the same, of numbers that can be put together. -/
import Derived.Test.YtggkhnmhhifniaaWatchRChk
namespace Go.Proofs.Ytggkhnmhhifniaa.Watch
open Go.RowKit Go.Proofs.Ytggkhnmhhifniaa.Kit Go.Proofs.Ytggkhnmhhifniaa.Symbol

theorem price_one (p : Int) : (Fix.price p 1 == 0) = (decide (1 ≤ p) && decide (p ≤ 1099511627776)) := by
  unfold Fix.price
  by_cases h1 : 1 ≤ p
  · have hd : Fix.down p 1 = p := by unfold Fix.down; rw [if_neg (by omega)]; omega
    rw [hd]
    by_cases h2 : p ≤ 1099511627776 <;> simp [h1, h2] <;> (try omega)
  · have h3 : p < 1 := by omega
    simp [h1, h3]

theorem trade_eq (k : Kn) (m : Msg) : (if m.kind = 3 then rtradeF k m else 0) = if (!true) = true then 5 else if (!(!(m.kind == 3) || decide (1 ≤ m.qty))) = true then 9
    else if (!(!(m.kind == 3) || openF k m.code)) = true then 10 else if (!(!(m.kind == 3) || inF k m)) = true then 11 else 0 := by
  by_cases g3 : m.kind = 3
  · have gb : (m.kind == 3) = true := by simp [g3]
    simp only [g3, if_true, rtradeF, openF, inF, price_one]
    by_cases hq : m.qty < 1
    · have : ¬ (1 : Int) ≤ m.qty := by omega
      simp [hq, this]
    · have hq1 : (1 : Int) ≤ m.qty := by omega
      by_cases c1 : m.code = 1
      · simp only [c1]
        cases hb : inBand k.blo k.bhi m.price <;> by_cases p2 : k.phase = 2 <;> simp [hq, hq1, p2]
      · by_cases c2 : m.code = 2
        · simp only [c2]
          cases hb : inBand k.clo k.chi m.price <;> by_cases p4 : k.phase = 4 <;> simp [hq, hq1, p4]
        · by_cases c3 : m.code = 3
          · simp only [c3]
            by_cases p4 : k.phase = 4 <;> by_cases p1 : k.phase = 1 <;> by_cases a1 : 1 ≤ m.price <;> by_cases a2 : m.price ≤ 1099511627776 <;> simp [hq, hq1, p4, p1, a1, a2] <;> omega
          · simp [hq, hq1, c1, c2, c3]
  · have gb : (m.kind == 3) = false := by simp [g3]
    simp [g3, gb]

theorem fault_eq (ks : List Kn) (seq tick : Int) (m : Msg) (h0 : 0 ≤ seq) (h1 : seq ≤ 4611686018427387904) (h2 : -9223372036854775808 ≤ m.seq) (h3 : m.seq ≤ 9223372036854775807) :
    rfaultF ks seq tick m = faultF ks seq tick (kOf ks m.sym) m := by
  unfold rfaultF faultF
  have e1 : wrap64 (seq + 1) = seq + 1 := by unfold wrap64; omega
  have e2 : (IntKind.i64.wrap (m.seq - 1) ≠ seq ∨ m.seq < 1) ↔ ¬ m.seq = seq + 1 := by
    rw [IntKind.wrap_i64]; omega
  rw [e1]
  by_cases hs : m.seq = seq + 1
  · have hb : (m.seq == seq + 1) = true := by simp [hs]
    rw [if_neg (by rw [e2]; simpa using hs), hb]
    simp only [Bool.not_true, Bool.false_eq_true, if_false]
    by_cases hl : lateF ks tick m.tick = true
    · rw [if_pos hl, if_pos hl]
    · rw [if_neg hl, if_neg hl]
      unfold kOf
      cases ho : ofF ks.length m.sym with
      | none =>
        simp only [Option.map_none, Option.isSome_none, Bool.false_or, globalF]
        by_cases g2 : m.kind = 2
        · simp [g2]
        · by_cases g9 : m.kind = 9
          · simp [g9]
          · simp [g2, g9]
      | some i =>
        simp only [Option.map_some, Option.isSome_some, Bool.true_or, Option.getD_some]
        exact trade_eq _ m
  · have hb : (m.seq == seq + 1) = false := by simpa using hs
    rw [if_pos (by rw [e2]; exact hs), hb]
    rfl

/-- A fault-free message's number follows. -/
theorem fault_seq (ks : List Kn) (seq tick : Int) (k : Option Kn) (m : Msg) (h0 : 0 ≤ seq) (h1 : seq ≤ 4611686018427387904) (h : faultF ks seq tick k m = 0) : m.seq = seq + 1 := by
  have e1 : wrap64 (seq + 1) = seq + 1 := by unfold wrap64; omega
  unfold faultF at h
  rw [e1] at h
  by_cases hs : m.seq = seq + 1
  · exact hs
  · rw [if_pos (by simpa using hs)] at h; omega

def runF (sy : List Sym) : Nat → List Msg → List Kn → Int → Int → Int × Int
  | i, [], _, _, _ => ((i : Int), 0)
  | i, m :: l, ks, seq, tick => if faultF ks seq tick (kOf ks m.sym) m = 0 then runF sy (i + 1) l (tellAll sy ks m) m.seq m.tick else ((i : Int), faultF ks seq tick (kOf ks m.sym) m)
end Go.Proofs.Ytggkhnmhhifniaa.Watch
