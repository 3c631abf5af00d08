/- The document's ledger: Put. -/
import Derived.Test.YtmkcooamgojbpaaL31D
namespace Go.Proofs.Ytmkcooamgojbpaa.Ledger
open Go.RowKit Go.Proofs.Ytmkcooamgojbpaa.Kit Go.Proofs.Ytmkcooamgojbpaa.Blk Go.Proofs.Ytmkcooamgojbpaa.Mp Go.Proofs.Ytmkcooamgojbpaa.Msgs Go.Proofs.Ytmkcooamgojbpaa.Own
attribute [local go_sem ↓] Go.wp_at_zero Go.wp_at_succ
set_option linter.unusedVariables false

theorem RPutIs.from {N R : Nat} {le : List DRow × List DRow} {w w0 w' : World} {e : Ending} (h : RPutIs N R le w0 e w') (hb : Below N w w0) : RPutIs N R le w e w' := ⟨h.1, h.2.1, (Chg.of hb).trans h.2.2⟩
set_option maxRecDepth 20000 in
theorem rput3 (N R : Nat) (l es : List DRow) (v u : Value) (m : Msg) (hk : m.kind = 3) (w : World) (h : RS N w R l es v u) (hN : N ≤ w.heap.size) (hl : FineL 562949953421312 l) (hes : es.length ≤ 1000) :
    Calls Try.prog 8 #[.pointer (some ⟨R, 0, none⟩), .agg m.cells] w (RPutIs N R (rputD l es m) w) := by
  have HT := Lib.hid (show rputD l es m = (if takenB m.qty = true then tradeD l es m else (l, es)) by unfold rputD; rw [if_pos hk])
  have HTR := Lib.hid (fun W hW hNW hq => rtrade_any N R l es v u m W hW hNW hq hl hes)
  have HMB := Lib.hid (Blk.new w m.cells 33 w.heap.size rfl)
  have HS0 := Lib.hid (h.below ((Below.refl w.heap.size w).alloc (Nat.le_refl _) (.cells m.cells 33)))
  have HB0 := Lib.hid (((Below.refl w.heap.size w).alloc (Nat.le_refl _) (.cells m.cells 33)).mono hN)
  have HN0 := Lib.hid (show N ≤ (w.alloc (.cells m.cells 33)).heap.size by rw [World.size_alloc]; omega)
  have HTK := Lib.hid (fun n W => rtaken_any n W)
  unfold Msg.cells at *
  rw [hk] at HMB HS0 HB0 HN0 HTR ⊢
  have c0 : (w.alloc (.cells #[.int .i64 3, .int .i64 m.sym, .int .i64 m.seq, .int .i64 m.tick, .int .i64 m.id, .int .i64 m.wth, .int .i64 m.price, .int .i64 m.qty, .int .i64 m.code] 33)).cell? ⟨w.heap.size, 0, none⟩ = some (.int .i64 3) := HMB.out.cell 0 rfl
  have c5 : (w.alloc (.cells #[.int .i64 3, .int .i64 m.sym, .int .i64 m.seq, .int .i64 m.tick, .int .i64 m.id, .int .i64 m.wth, .int .i64 m.price, .int .i64 m.qty, .int .i64 m.code] 33)).cell? ⟨w.heap.size, 5, none⟩ = some (.int .i64 m.wth) := HMB.out.cell 5 rfl
  have c7 : (w.alloc (.cells #[.int .i64 3, .int .i64 m.sym, .int .i64 m.seq, .int .i64 m.tick, .int .i64 m.id, .int .i64 m.wth, .int .i64 m.price, .int .i64 m.qty, .int .i64 m.code] 33)).cell? ⟨w.heap.size, 7, none⟩ = some (.int .i64 m.qty) := HMB.out.cell 7 rfl
  clear hk h
  go_enter Try.func8, Try.ntmps8
  go_wp2_with fail
  generalize w.alloc (.cells #[.int .i64 3, .int .i64 m.sym, .int .i64 m.seq, .int .i64 m.tick, .int .i64 m.id, .int .i64 m.wth, .int .i64 m.price, .int .i64 m.qty, .int .i64 m.code] 33) = W0 at HMB HS0 HB0 HN0 c0 c5 c7 ⊢
  refine (HTK.out _ _).mono ?_
  rintro e w1 ⟨rfl, rfl⟩
  cases hq : takenB m.qty with
  | false =>
    rw [hq] at HT
    go_wp2_with fail
    go_ret
    exact ⟨⟨_, rfl⟩, ⟨_, _, by rw [HT.out]; exact HS0.out⟩, Chg.of HB0.out⟩
  | true =>
    rw [hq] at HT
    have HQ := Lib.hid (taken_in hq)
    have c0' := HMB.out.cell 1 rfl
    have c2 := HMB.out.cell 2 rfl
    have c3 := HMB.out.cell 3 rfl
    have c4 := HMB.out.cell 4 rfl
    have c6 := HMB.out.cell 6 rfl
    have c8 := HMB.out.cell 8 rfl
    clear hq
    go_wp2_with fail
    refine (HTR.out _ HS0.out HN0.out HQ.out).mono ?_
    intro e w2 h2
    obtain ⟨⟨c, rfl⟩, h3, h4⟩ := h2
    have H3 := Lib.hid h3
    have H4 := Lib.hid h4
    clear h3 h4
    go_wp2_with fail
    go_ret
    exact ⟨⟨_, rfl⟩, by rw [HT.out]; exact H3.out, (Chg.of HB0.out).trans H4.out⟩
set_option maxRecDepth 20000 in
theorem rput1 (N R : Nat) (l es : List DRow) (v u : Value) (m : Msg) (hk : m.kind = 1) (w : World) (h : RS N w R l es v u) (hN : N ≤ w.heap.size) (hl : FineL 562949953421312 l) (hf : FineE es) (hes : es.length ≤ 1000) (hls : l.length ≤ 1000) :
    Calls Try.prog 8 #[.pointer (some ⟨R, 0, none⟩), .agg m.cells] w (RPutIs N R (rputD l es m) w) := by
  have HT := Lib.hid (show rputD l es m = (if takenB m.qty = true ∧ takenB m.wth = true then ackD l es m else (l, es)) by unfold rputD; rw [if_neg (by omega), if_neg (by omega), if_pos hk])
  have HTR := Lib.hid (fun W hW hNW hq => rack_any N R l es v u m W hW hNW hq hl hf hes hls)
  have HMB := Lib.hid (Blk.new w m.cells 33 w.heap.size rfl)
  have HS0 := Lib.hid (h.below ((Below.refl w.heap.size w).alloc (Nat.le_refl _) (.cells m.cells 33)))
  have HB0 := Lib.hid (((Below.refl w.heap.size w).alloc (Nat.le_refl _) (.cells m.cells 33)).mono hN)
  have HN0 := Lib.hid (show N ≤ (w.alloc (.cells m.cells 33)).heap.size by rw [World.size_alloc]; omega)
  have HTK := Lib.hid (fun n W => rtaken_any n W)
  unfold Msg.cells at *
  rw [hk] at HMB HS0 HB0 HN0 HTR ⊢
  have c0 : (w.alloc (.cells #[.int .i64 1, .int .i64 m.sym, .int .i64 m.seq, .int .i64 m.tick, .int .i64 m.id, .int .i64 m.wth, .int .i64 m.price, .int .i64 m.qty, .int .i64 m.code] 33)).cell? ⟨w.heap.size, 0, none⟩ = some (.int .i64 1) := HMB.out.cell 0 rfl
  have c5 : (w.alloc (.cells #[.int .i64 1, .int .i64 m.sym, .int .i64 m.seq, .int .i64 m.tick, .int .i64 m.id, .int .i64 m.wth, .int .i64 m.price, .int .i64 m.qty, .int .i64 m.code] 33)).cell? ⟨w.heap.size, 5, none⟩ = some (.int .i64 m.wth) := HMB.out.cell 5 rfl
  have c7 : (w.alloc (.cells #[.int .i64 1, .int .i64 m.sym, .int .i64 m.seq, .int .i64 m.tick, .int .i64 m.id, .int .i64 m.wth, .int .i64 m.price, .int .i64 m.qty, .int .i64 m.code] 33)).cell? ⟨w.heap.size, 7, none⟩ = some (.int .i64 m.qty) := HMB.out.cell 7 rfl
  clear hk h
  go_enter Try.func8, Try.ntmps8
  go_wp2_with fail
  generalize w.alloc (.cells #[.int .i64 1, .int .i64 m.sym, .int .i64 m.seq, .int .i64 m.tick, .int .i64 m.id, .int .i64 m.wth, .int .i64 m.price, .int .i64 m.qty, .int .i64 m.code] 33) = W0 at HMB HS0 HB0 HN0 c0 c5 c7 ⊢
  refine (HTK.out _ _).mono ?_
  rintro e w1 ⟨rfl, rfl⟩
  cases hq : takenB m.qty with
  | false =>
    rw [hq, if_neg (by simp)] at HT
    go_wp2_with fail
    go_ret
    exact ⟨⟨_, rfl⟩, ⟨_, _, by rw [HT.out]; exact HS0.out⟩, Chg.of HB0.out⟩
  | true =>
    have HQ := Lib.hid (taken_in hq)
    have HQ1 := Lib.hid hq
    clear hq
    go_wp2_with fail
    refine (HTK.out _ _).mono ?_
    rintro e w1 ⟨rfl, rfl⟩
    cases hw : takenB m.wth with
    | false =>
      rw [hw, if_neg (by simp)] at HT
      go_wp2_with fail
      go_ret
      exact ⟨⟨_, rfl⟩, ⟨_, _, by rw [HT.out]; exact HS0.out⟩, Chg.of HB0.out⟩
    | true =>
      rw [if_pos ⟨HQ1.out, hw⟩] at HT
      have c0' := HMB.out.cell 1 rfl
      have c2 := HMB.out.cell 2 rfl
      have c3 := HMB.out.cell 3 rfl
      have c4 := HMB.out.cell 4 rfl
      have c6 := HMB.out.cell 6 rfl
      have c8 := HMB.out.cell 8 rfl
      clear hw
      go_wp2_with fail
      refine (HTR.out _ HS0.out HN0.out HQ.out).mono ?_
      intro e w2 h2
      obtain ⟨⟨c, rfl⟩, h3, h4⟩ := h2
      have H3 := Lib.hid h3
      have H4 := Lib.hid h4
      clear h3 h4
      go_wp2_with fail
      go_ret
      exact ⟨⟨_, rfl⟩, by rw [HT.out]; exact H3.out, (Chg.of HB0.out).trans H4.out⟩
set_option maxRecDepth 20000 in
theorem rput4 (N R : Nat) (l es : List DRow) (v u : Value) (m : Msg) (hk : m.kind = 4) (w : World) (h : RS N w R l es v u) (hN : N ≤ w.heap.size) (hl : FineL 562949953421312 l) (hes : es.length ≤ 1000) :
    Calls Try.prog 8 #[.pointer (some ⟨R, 0, none⟩), .agg m.cells] w (RPutIs N R (rputD l es m) w) := by
  by_cases hq : takenB m.qty = true
  · have e : rputD l es m = (doneD l m, es) := by unfold rputD; rw [if_neg (by omega), if_pos hk, if_pos hq]
    rw [e]
    exact rdone_any N R l es v u m hk w h hN (taken_in hq) hl
  have HT := Lib.hid (show rputD l es m = (l, es) by unfold rputD; rw [if_neg (by omega), if_pos hk, if_neg hq])
  have HQ := Lib.hid (show takenB m.qty = false by simpa using hq)
  clear hq
  have HMB := Lib.hid (Blk.new w m.cells 33 w.heap.size rfl)
  have HS0 := Lib.hid (h.below ((Below.refl w.heap.size w).alloc (Nat.le_refl _) (.cells m.cells 33)))
  have HB0 := Lib.hid (((Below.refl w.heap.size w).alloc (Nat.le_refl _) (.cells m.cells 33)).mono hN)
  have HN0 := Lib.hid (show N ≤ (w.alloc (.cells m.cells 33)).heap.size by rw [World.size_alloc]; omega)
  have HTK := Lib.hid (fun n W => rtaken_any n W)
  unfold Msg.cells at *
  rw [hk] at HMB HS0 HB0 HN0 ⊢
  have c0 : (w.alloc (.cells #[.int .i64 4, .int .i64 m.sym, .int .i64 m.seq, .int .i64 m.tick, .int .i64 m.id, .int .i64 m.wth, .int .i64 m.price, .int .i64 m.qty, .int .i64 m.code] 33)).cell? ⟨w.heap.size, 0, none⟩ = some (.int .i64 4) := HMB.out.cell 0 rfl
  have c5 : (w.alloc (.cells #[.int .i64 4, .int .i64 m.sym, .int .i64 m.seq, .int .i64 m.tick, .int .i64 m.id, .int .i64 m.wth, .int .i64 m.price, .int .i64 m.qty, .int .i64 m.code] 33)).cell? ⟨w.heap.size, 5, none⟩ = some (.int .i64 m.wth) := HMB.out.cell 5 rfl
  have c7 : (w.alloc (.cells #[.int .i64 4, .int .i64 m.sym, .int .i64 m.seq, .int .i64 m.tick, .int .i64 m.id, .int .i64 m.wth, .int .i64 m.price, .int .i64 m.qty, .int .i64 m.code] 33)).cell? ⟨w.heap.size, 7, none⟩ = some (.int .i64 m.qty) := HMB.out.cell 7 rfl
  clear hk h
  go_enter Try.func8, Try.ntmps8
  go_wp2_with fail
  generalize w.alloc (.cells #[.int .i64 4, .int .i64 m.sym, .int .i64 m.seq, .int .i64 m.tick, .int .i64 m.id, .int .i64 m.wth, .int .i64 m.price, .int .i64 m.qty, .int .i64 m.code] 33) = W0 at HMB HS0 HB0 HN0 c0 c5 c7 ⊢
  refine (HTK.out _ _).mono ?_
  rintro e w1 ⟨rfl, rfl⟩
  rw [HQ.out]
  go_wp2_with fail
  go_ret
  exact ⟨⟨_, rfl⟩, ⟨_, _, by rw [HT.out]; exact HS0.out⟩, Chg.of HB0.out⟩
set_option maxRecDepth 20000 in
theorem rput0 (N R : Nat) (l es : List DRow) (v u : Value) (m : Msg) (h3 : m.kind ≠ 3) (h4 : m.kind ≠ 4) (h1 : m.kind ≠ 1) (w : World) (h : RS N w R l es v u) (hN : N ≤ w.heap.size) :
    Calls Try.prog 8 #[.pointer (some ⟨R, 0, none⟩), .agg m.cells] w (RPutIs N R (rputD l es m) w) := by
  have HT := Lib.hid (show rputD l es m = (l, es) by unfold rputD; rw [if_neg h3, if_neg h4, if_neg h1])
  have HMB := Lib.hid (Blk.new w m.cells 33 w.heap.size rfl)
  have HS0 := Lib.hid (h.below ((Below.refl w.heap.size w).alloc (Nat.le_refl _) (.cells m.cells 33)))
  have HB0 := Lib.hid (((Below.refl w.heap.size w).alloc (Nat.le_refl _) (.cells m.cells 33)).mono hN)
  have b1 : (m.kind != 1) = true := by simpa using h1
  have b3 : (m.kind != 3) = true := by simpa using h3
  have b4 : (m.kind != 4) = true := by simpa using h4
  clear h1 h3 h4 h
  unfold Msg.cells at *
  go_enter Try.func8, Try.ntmps8
  go_wp2_with fail
  go_ret
  exact ⟨⟨_, rfl⟩, ⟨_, _, by rw [HT.out]; exact HS0.out⟩, Chg.of HB0.out⟩
theorem rput_any (N R : Nat) (l es : List DRow) (v u : Value) (m : Msg) (w : World) (h : RS N w R l es v u) (hN : N ≤ w.heap.size) (hl : FineL 562949953421312 l) (hf : FineE es) (hes : es.length ≤ 1000) (hls : l.length ≤ 1000) :
    Calls Try.prog 8 #[.pointer (some ⟨R, 0, none⟩), .agg m.cells] w (RPutIs N R (rputD l es m) w) := by
  by_cases h3 : m.kind = 3
  · exact rput3 N R l es v u m h3 w h hN hl hes
  by_cases h4 : m.kind = 4
  · exact rput4 N R l es v u m h4 w h hN hl hes
  by_cases h1 : m.kind = 1
  · exact rput1 N R l es v u m h1 w h hN hl hf hes hls
  exact rput0 N R l es v u m h3 h4 h1 w h hN
end Go.Proofs.Ytmkcooamgojbpaa.Ledger
