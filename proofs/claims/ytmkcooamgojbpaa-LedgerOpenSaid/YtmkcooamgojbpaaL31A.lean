/- The document's ledger: ack. -/
import Derived.Test.YtmkcooamgojbpaaL31U
import Derived.Deep.DeepCutAuto
import Derived.Deep.CutBlock
namespace Go.Proofs.Ytmkcooamgojbpaa.Ledger
open Go.RowKit Go.Proofs.Ytmkcooamgojbpaa.Kit Go.Proofs.Ytmkcooamgojbpaa.Blk Go.Proofs.Ytmkcooamgojbpaa.Mp Go.Proofs.Ytmkcooamgojbpaa.Msgs Go.Proofs.Ytmkcooamgojbpaa.Own
attribute [local go_sem ↓] Go.wp_at_zero Go.wp_at_succ
set_option linter.unusedVariables false

def oldR (r : DRow) : DRow := ⟨r.sym, r.id, r.a, true⟩
def oldD (k : Key) (l : List DRow) : List DRow := if h : findN k l < l.length then l.set (findN k l) (oldR l[findN k l]) else l
def ackR (m : Msg) (y : Int) : DRow := ⟨m.sym, m.id, ⟨m.wth, y, 0, m.qty⟩, false⟩
def busyA (a : Acc) : Bool := a.rest != 0 || owesA a != 0
def ackD (l es : List DRow) (m : Msg) : List DRow × List DRow :=
  if ((accD (keyM m) l).map busyA).getD false = true then (l, es)
  else if m.wth < earlyD (keyM m) es + m.qty then (l, es)
  else (oldD (keyM m) l ++ [ackR m (earlyD (keyM m) es)], es.filter fun r => !keyB (keyM m) r)
def keepE (k : Key) (es : List DRow) : List DRow := es.filter fun r => !keyB k r
theorem keep_yes {k : Key} {es : List DRow} {r : DRow} (h : keyB k r = false) : keepE k (es ++ [r]) = keepE k es ++ [r] := by simp [keepE, h]
theorem keep_no {k : Key} {es : List DRow} {r : DRow} (h : keyB k r = true) : keepE k (es ++ [r]) = keepE k es := by simp [keepE, h]
theorem keep_len (k : Key) (es : List DRow) : (keepE k es).length ≤ es.length := List.length_filter_le _ _
section
variable {N R : Nat} {l es : List DRow} {v u u' : Value} {W W' w : World}
/-- The early rows are others. -/
theorem RS.early {n' : Nat} {xs' : List Value} {es' : List DRow} {w0 : World} (h : RS N w0 R l es v u) (hN : N ≤ w0.heap.size) (hb0 : Below w0.heap.size w0 W) (hown : W.ownsRow w0.heap.size 57 7 u' n' xs') (hn : n' = es'.length) (hx : xs' = rowsD es') :
    RS N (W.setCell ⟨R, 1, none⟩ u') R l es' v u' := by
  subst hn hx
  have hR := h.lt
  have hb := h.below hb0
  refine ⟨hb.box.set 1 u', hR, hb.row.kept (cell_grown W R 1 u') ?_, (owns_mono hown hN).kept (cell_grown W R 1 u') ?_, fun g hv e => ?_⟩
  · cases e : v.ownBlock with
    | none => exact .inl rfl
    | some g => exact .inr (fun e' => by injection e' with e'; have := (h.row.lt g e).1; omega)
  · cases e : u'.ownBlock with
    | none => exact .inl rfl
    | some g => exact .inr (fun e' => by injection e' with e'; have := (hown.lt g e).1; have := h.box.lt; omega)
  · have h1 := (h.row.lt g hv).2
    have h2 := (hown.lt g e).1
    omega
theorem row_slice {B n : Nat} {x : Value} {xs : List Value} (h : W.ownsRow B 57 7 x n xs) : ∃ a c, x = .slice a n c := by
  rcases h.2 with ⟨rfl, h0⟩ | ⟨g, cap, cur, hv, _⟩
  · exact ⟨none, 0, by rw [h0]⟩
  · exact ⟨_, _, hv⟩
theorem chg_push' {n' : Nat} {xs' : List Value} {nb : Option (Nat × Array Value)} {w0 : World} {x : Value} (hc : Chg N R w w0) (hN : N ≤ w0.heap.size) (hg : GA w0.heap.size 57 7 w0 W (some (u', n', xs')) nb) (j : Nat) : Chg N R w (W.setCell ⟨R, j, none⟩ x) :=
  (hc.trans (Chg.of (hg.bel.mono hN))).setCell _ _ (.inl rfl)
end
set_option maxRecDepth 20000 in
set_option maxHeartbeats 4000000 in
theorem rack_any (N R : Nat) (l es : List DRow) (v u : Value) (m : Msg) (w : World) (h : RS N w R l es v u) (hN : N ≤ w.heap.size) (hq : 0 ≤ m.qty ∧ m.qty ≤ 4294967296) (hl : FineL 562949953421312 l) (hf : FineE es) (hes : es.length ≤ 1000) (hls : l.length ≤ 1000) :
    Calls Try.prog 20 #[.pointer (some ⟨R, 0, none⟩), .agg m.cells] w (RPutIs N R (ackD l es m) w) := by
  have HMB := Lib.hid (Blk.new w m.cells 33 w.heap.size rfl)
  have HS0 := Lib.hid (h.below ((Below.refl w.heap.size w).alloc (Nat.le_refl _) (.cells m.cells 33)))
  have HB0 := Lib.hid ((Below.refl w.heap.size w).alloc (Nat.le_refl _) (.cells m.cells 33))
  have HVB := Lib.hid (show v.ownBlock ≠ some w.heap.size from fun e => by have := (h.row.lt _ e).2; omega)
  have HFI := Lib.hid (fun W (hW : RS N W R l es v u) => findr_any N R l es v u m.sym m.id W hW)
  have HEA := Lib.hid (fun W (hW : RS N W R l es v u) => earlyof_any N R l es v u m.sym m.id W hW hf hes)
  have hy := early_in (k := (m.sym, m.id)) hf
  have HNN := Lib.hid hN
  have HHL := Lib.hid hl
  obtain ⟨q1, q2⟩ := hq
  have hBR : R < w.heap.size := h.box.lt
  clear h hl hf
  unfold Msg.cells at *
  have c1 : (w.alloc (.cells #[.int .i64 m.kind, .int .i64 m.sym, .int .i64 m.seq, .int .i64 m.tick, .int .i64 m.id, .int .i64 m.wth, .int .i64 m.price, .int .i64 m.qty, .int .i64 m.code] 33)).cell? ⟨w.heap.size, 1, none⟩ = some (.int .i64 m.sym) := HMB.out.cell 1 rfl
  have c4 : (w.alloc (.cells #[.int .i64 m.kind, .int .i64 m.sym, .int .i64 m.seq, .int .i64 m.tick, .int .i64 m.id, .int .i64 m.wth, .int .i64 m.price, .int .i64 m.qty, .int .i64 m.code] 33)).cell? ⟨w.heap.size, 4, none⟩ = some (.int .i64 m.id) := HMB.out.cell 4 rfl
  have c5 : (w.alloc (.cells #[.int .i64 m.kind, .int .i64 m.sym, .int .i64 m.seq, .int .i64 m.tick, .int .i64 m.id, .int .i64 m.wth, .int .i64 m.price, .int .i64 m.qty, .int .i64 m.code] 33)).cell? ⟨w.heap.size, 5, none⟩ = some (.int .i64 m.wth) := HMB.out.cell 5 rfl
  have c7 : (w.alloc (.cells #[.int .i64 m.kind, .int .i64 m.sym, .int .i64 m.seq, .int .i64 m.tick, .int .i64 m.id, .int .i64 m.wth, .int .i64 m.price, .int .i64 m.qty, .int .i64 m.code] 33)).cell? ⟨w.heap.size, 7, none⟩ = some (.int .i64 m.qty) := HMB.out.cell 7 rfl
  go_enter Try.func20, Try.ntmps20
  go_wp2_with fail
  generalize w.alloc (.cells #[.int .i64 m.kind, .int .i64 m.sym, .int .i64 m.seq, .int .i64 m.tick, .int .i64 m.id, .int .i64 m.wth, .int .i64 m.price, .int .i64 m.qty, .int .i64 m.code] 33) = W0 at HMB HS0 HB0 c1 c4 c5 c7 ⊢
  have HAD := Lib.hid (show ackD l es m = (if ((accD (m.sym, m.id) l).map busyA).getD false = true then (l, es) else if m.wth < earlyD (m.sym, m.id) es + m.qty then (l, es) else (oldD (m.sym, m.id) l ++ [ackR m (earlyD (m.sym, m.id) es)], keepE (m.sym, m.id) es)) from rfl)
  generalize hye : earlyD (m.sym, m.id) es = y at HAD HEA hy
  clear hye
  obtain ⟨hy0, hy1⟩ := hy
  rcases find_acc (k := (m.sym, m.id)) (l := l) with ⟨i, hi, hn, hfd, hac, hlv⟩ | ⟨hfd, hac⟩
  · rw [hfd] at HFI
    obtain ⟨g, cap, hv, hgN, hgl, hc2⟩ := HS0.out.form (by omega)
    subst hv
    unfold maxLen at hc2
    have HOW := Lib.hid (fun W => owed_any l[i].a ((HHL.out _ (List.getElem_mem hi)).mono (by omega)) W)
    have cR : W0.cell? ⟨R, 0, none⟩ = some (.slice (some ⟨g, 0, none⟩) l.length cap) := HS0.out.box.cell 0 rfl
    have r2 : W0.cell? ⟨g, i * 7 + 2, none⟩ = some (.int .i64 l[i].a.asked) := HS0.out.cell i hi 2 _ rfl
    have r3 : W0.cell? ⟨g, i * 7 + 3, none⟩ = some (.int .i64 l[i].a.filled) := HS0.out.cell i hi 3 _ rfl
    have r4 : W0.cell? ⟨g, i * 7 + 4, none⟩ = some (.int .i64 l[i].a.gone) := HS0.out.cell i hi 4 _ rfl
    have r5 : W0.cell? ⟨g, i * 7 + 5, none⟩ = some (.int .i64 l[i].a.rest) := HS0.out.cell i hi 5 _ rfl
    have HOLD := Lib.hid (show oldD (m.sym, m.id) l = l.set i (oldR l[i]) by
      subst hn
      unfold oldD
      rw [dif_pos hi])
    have HSET := Lib.hid (fun W (hW : RS N W R l es (.slice (some ⟨g, 0, none⟩) l.length cap) u) => hW.set1 i hi 6 (by decide) (.bool true) (oldR l[i]) rfl)
    have hl1 : (l.set i (oldR l[i])).length ≤ 1000 := by rw [List.length_set]; exact hls
    generalize oldR l[i] = ro at HOLD HSET hl1
    generalize l[i].a = a at r2 r3 r4 r5 HOW hac
    obtain ⟨x, y2, z, t⟩ := a
    have HGB := Lib.hid (show g ≠ w.heap.size from fun e => HVB.out (by rw [← e]; rfl))
    have HBU := Lib.hid (show ((accD (m.sym, m.id) l).map busyA).getD false = (t != 0 || owesA ⟨x, y2, z, t⟩ != 0) by rw [hac]; rfl)
    unfold Acc.cells at HOW
    dsimp only at r2 r3 r4 r5 HOW
    have g0 : (0 : Int) ≤ (i : Int) := by omega
    have g1 : (i : Int) < (l.length : Int) := by omega
    clear hfd hac hn hlv
    refine (HFI.out _ HS0.out).mono ?_
    rintro e w1 ⟨rfl, rfl⟩
    by_cases ht : t = 0
    · have b1 : (t != 0) = false := by simpa using ht
      clear ht
      go_wp2_with fail
      refine (HOW.out _).mono ?_
      rintro e w2 ⟨rfl, hb2⟩
      have HS2 := Lib.hid (HS0.out.below hb2)
      have HM2 := Lib.hid (HMB.out.below hb2 HMB.out.lt)
      have HB2 := Lib.hid ((HB0.out.mono HNN.out).trans (hb2.mono (Nat.le_trans HNN.out HB0.out.size)))
      clear hb2 c1 c4 c5 c7 cR r2 r3 r4 r5
      have c1 : w2.cell? ⟨w.heap.size, 1, none⟩ = some (.int .i64 m.sym) := HM2.out.cell 1 rfl
      have c4 : w2.cell? ⟨w.heap.size, 4, none⟩ = some (.int .i64 m.id) := HM2.out.cell 4 rfl
      have c5 : w2.cell? ⟨w.heap.size, 5, none⟩ = some (.int .i64 m.wth) := HM2.out.cell 5 rfl
      have c7 : w2.cell? ⟨w.heap.size, 7, none⟩ = some (.int .i64 m.qty) := HM2.out.cell 7 rfl
      have cR : w2.cell? ⟨R, 0, none⟩ = some (.slice (some ⟨g, 0, none⟩) l.length cap) := HS2.out.box.cell 0 rfl
      have fr6 : w2.frozen? ⟨g, i * 7 + 6, none⟩ = false := HS2.out.free _
      have cr6 : w2.cell? ⟨g, i * 7 + 6, none⟩ = some (.bool l[i].old) := HS2.out.cell i hi 6 _ rfl
      generalize l[i].old = wasold at cr6
      by_cases how : owesA ⟨x, y2, z, t⟩ = 0
      · have b2 : (owesA ⟨x, y2, z, t⟩ != 0) = false := by simpa using how
        clear how
        rw [b1, b2] at HBU
        go_wp2_with fail
        refine (HEA.out _ HS2.out).mono ?_
        rintro e w1 ⟨rfl, rfl⟩
        by_cases hlt : m.wth < y + m.qty
        · have HT0 := Lib.hid (show ackD l es m = (l, es) by rw [HAD.out, HBU.out]; simp [hlt])
          go_wp2_with fail
          go_ret
          exact ⟨⟨_, rfl⟩, ⟨_, _, by rw [HT0.out]; exact HS2.out⟩, Chg.of HB2.out⟩
        · have HT0 := Lib.hid (show ackD l es m = (l.set i ro ++ [ackR m y], keepE (m.sym, m.id) es) by rw [HAD.out, HBU.out, HOLD.out]; simp [hlt])
          go_upto_region 9 with fail
          change Code.wp _ _ _ _ (w2.setCell ⟨g, i * 7 + 6, none⟩ (.bool true))
          have HS4 := Lib.hid (HSET.out _ HS2.out)
          have HM4 := Lib.hid (HM2.out.apart ⟨g, i * 7 + 6, none⟩ (.bool true) HGB.out)
          have HB4 := Lib.hid (HB2.out.setCell (p := ⟨g, i * 7 + 6, none⟩) hgN (.bool true))
          generalize w2.setCell ⟨g, i * 7 + 6, none⟩ (.bool true) = w4 at HS4 HM4 HB4 ⊢
          obtain ⟨v4, hv4⟩ : ∃ v4, v4 = Value.slice (some ⟨g, 0, none⟩) l.length cap := ⟨_, rfl⟩
          rw [← hv4] at HS4
          generalize l.set i ro = L1 at HS4 HT0 hl1
          clear hv4 HSET HOLD HBU HOW HS2 HM2 HB2 HS0 HEA HFI HVB cR fr6 cr6
          clear c1 c4 c5 c7
          have c1 : w4.cell? ⟨w.heap.size, 1, none⟩ = some (.int .i64 m.sym) := HM4.out.cell 1 rfl
          go_wp2_with fail
          go_loopw [7, 8] (fun vv kk wr => ∃ k : Nat, k ≤ es.length ∧ kk = .int .i64 k ∧ wr.ownsRow w4.heap.size 57 7 vv (keepE (m.sym, m.id) (es.take k)).length (rowsD (keepE (m.sym, m.id) (es.take k))) ∧ Below w4.heap.size w4 wr) (fun _ i _ => es.length - (intOf i).toNat)
          case atStart => exact ⟨0, by omega, rfl, by simpa [keepE] using World.ownsRow_nil _ _ _ _, Below.refl _ _⟩
          case round =>
            clear c1
            obtain ⟨k, hk, rfl, hrw, hbw⟩ := hrel
            obtain ⟨ka, kc, rfl⟩ := row_slice hrw
            have HRW := Lib.hid hrw
            have HBW := Lib.hid hbw
            have HSR := Lib.hid (HS4.out.below hbw)
            have HMR := Lib.hid (HM4.out.below hbw HM4.out.lt)
            clear hrw hbw
            obtain ⟨ua, uc, hu, hu1, hu2, hat⟩ := owned_at DRow.cells 7 cells_size HSR.out.ear
            subst hu
            unfold maxLen at hu2
            have cR : wr.cell? ⟨R, 1, none⟩ = some (.slice ua es.length uc) := HSR.out.box.cell 1 rfl
            have c1 : wr.cell? ⟨w.heap.size, 1, none⟩ = some (.int .i64 m.sym) := HMR.out.cell 1 rfl
            have c4 : wr.cell? ⟨w.heap.size, 4, none⟩ = some (.int .i64 m.id) := HMR.out.cell 4 rfl
            by_cases hlt : k < es.length
            · obtain ⟨g, rfl, -, -, hg⟩ := hat k hlt
              have HT := Lib.hid (List.take_succ_eq_append_getElem hlt)
              clear hat
              generalize es[k] = x at hg HT
              obtain ⟨x1, x2, ⟨y1, y2, y3, y4⟩, xo⟩ := x
              have d0 : wr.cell? ⟨g, k * 7, none⟩ = some (.int .i64 x1) := hg 0 _ rfl
              have d1 : wr.cell? ⟨g, k * 7 + 1, none⟩ = some (.int .i64 x2) := hg 1 _ rfl
              have HROW := Lib.hid hg
              have HKB := Lib.hid (show keyB (m.sym, m.id) ⟨x1, x2, ⟨y1, y2, y3, y4⟩, xo⟩ = (x1 == m.sym && x2 == m.id) from rfl)
              obtain ⟨i0, hi0, hz0, hz1, hz2⟩ := row_parts
              clear hg
              have g0 : (0 : Int) ≤ (k : Int) := by omega
              have g1 : (k : Int) < (es.length : Int) := by omega
              by_cases h1 : x1 = m.sym
              · have b1 : (x1 != m.sym) = false := by simp [h1]
                have b1' : (x1 == m.sym) = true := by simpa using h1
                clear h1
                by_cases h2 : x2 = m.id
                · have b2 : (x2 != m.id) = false := by simp [h2]
                  have b2' : (x2 == m.id) = true := by simpa using h2
                  clear h2
                  go_wp2_with fail
                  go_quiet (fail)
                  have HR2 := Lib.hid (grown_stay HRW.out ((Below.refl _ _).drewN nq))
                  have HB2 := Lib.hid (HBW.out.drewN nq)
                  have HROW := Lib.hid (show (wr.drewN nq).rangeAt g (k * 7) (DRow.cells ⟨x1, x2, ⟨y1, y2, y3, y4⟩, xo⟩).toList from HROW.out)
                  have cR : (wr.drewN nq).cell? ⟨R, 1, none⟩ = some (.slice (some ⟨g, 0, none⟩) es.length uc) := cR
                  clear d0 d1
                  generalize wr.drewN nq = w2 at HR2 HB2 HROW cR ⊢
                  go_wp2_with fail
                  go_roundw
                  case rel => exact ⟨k + 1, by omega, by go_num, by rw [HT.out, keep_no (by rw [HKB.out, b1', b2']; rfl)]; exact HR2.out, HB2.out⟩
                  case measure => simp [intOf]; omega
                · have b2 : (x2 != m.id) = true := by simpa using h2
                  have b2' : (x2 == m.id) = false := by simpa using h2
                  clear h2
                  go_wp2_with fail
                  go_quiet (fail)
                  have HR2 := Lib.hid (grown_stay HRW.out ((Below.refl _ _).drewN nq))
                  have HB2 := Lib.hid (HBW.out.drewN nq)
                  have HROW := Lib.hid (show (wr.drewN nq).rangeAt g (k * 7) (DRow.cells ⟨x1, x2, ⟨y1, y2, y3, y4⟩, xo⟩).toList from HROW.out)
                  have cR : (wr.drewN nq).cell? ⟨R, 1, none⟩ = some (.slice (some ⟨g, 0, none⟩) es.length uc) := cR
                  clear d0 d1
                  generalize wr.drewN nq = w2 at HR2 HB2 HROW cR ⊢
                  have hrow : w2.rangeAt g (k * 7) (DRow.cells ⟨x1, x2, ⟨y1, y2, y3, y4⟩, xo⟩).toList := HROW.out
                  have HR3 := Lib.hid (HR2.out.alloc (.cells (DRow.cells ⟨x1, x2, ⟨y1, y2, y3, y4⟩, xo⟩) 57))
                  have HB3 := Lib.hid (HB2.out.alloc HB2.out.size (.cells (DRow.cells ⟨x1, x2, ⟨y1, y2, y3, y4⟩, xo⟩) 57))
                  have HNS := Lib.hid (World.news_of_block (Blk.new w2 (DRow.cells ⟨x1, x2, ⟨y1, y2, y3, y4⟩, xo⟩) 57 w2.heap.size rfl))
                  have HKL := Lib.hid (show (keepE (m.sym, m.id) (es.take k)).length ≤ 1000 from Nat.le_trans (keep_len _ _) (by rw [List.length_take]; omega))
                  dsimp only [DRow.cells] at hrow HR3 HB3 HNS
                  go_wp2_with (first | (refine wpList_load_mid (by rfl) 57 _ (by rfl) g (k * 7) (by rfl) _ _ hrow Try.underlying57 rfl (by kernel_rfl) ?_) | (at_builtin; refine wpList_append_lies _ (by rfl) _ _ _ (by rfl) w4.heap.size 57 i0 (.agg rowZ) 7 56 Try.underlying27 hi0 hz0 hz1 hz2 (by rfl) (by decide) _ (keepE (m.sym, m.id) (es.take k)).length (rowsD (keepE (m.sym, m.id) (es.take k))) (by rfl) HR3.out ⟨w2.heap.size, 0, none⟩ 1 1 _ (by rfl) (by rfl) HNS.out (one_row ⟨x1, x2, ⟨y1, y2, y3, y4⟩, xo⟩) (by decide) (by unfold maxLen; have := HKL.out; omega) (by have := HKL.out; omega) HB3.out.size (w2.heap.size + 1) (by simp) ?_; intro g2 cap2 w5 hown5 hgrow5 hat5 hlt5))
                  have HB5 := Lib.hid (HB3.out.grown hgrow5 HB3.out.size (fun k e => (HR3.out.lt k e).1))
                  have HR5 := Lib.hid hown5
                  clear hown5 hgrow5 hat5 hlt5
                  go_roundw
                  case rel => exact ⟨k + 1, by omega, by go_num, by rw [HT.out, keep_yes (by rw [HKB.out, b1', b2']; rfl), List.length_append, ← rows_snoc]; exact HR5.out, HB5.out⟩
                  case measure => simp [intOf]; omega
              · have b1 : (x1 != m.sym) = true := by simpa using h1
                have b1' : (x1 == m.sym) = false := by simpa using h1
                clear h1
                go_wp2_with fail
                go_quiet (fail)
                have HR2 := Lib.hid (grown_stay HRW.out ((Below.refl _ _).drewN nq))
                have HB2 := Lib.hid (HBW.out.drewN nq)
                have HROW := Lib.hid (show (wr.drewN nq).rangeAt g (k * 7) (DRow.cells ⟨x1, x2, ⟨y1, y2, y3, y4⟩, xo⟩).toList from HROW.out)
                have cR : (wr.drewN nq).cell? ⟨R, 1, none⟩ = some (.slice (some ⟨g, 0, none⟩) es.length uc) := cR
                clear d0 d1
                generalize wr.drewN nq = w2 at HR2 HB2 HROW cR ⊢
                have hrow : w2.rangeAt g (k * 7) (DRow.cells ⟨x1, x2, ⟨y1, y2, y3, y4⟩, xo⟩).toList := HROW.out
                have HR3 := Lib.hid (HR2.out.alloc (.cells (DRow.cells ⟨x1, x2, ⟨y1, y2, y3, y4⟩, xo⟩) 57))
                have HB3 := Lib.hid (HB2.out.alloc HB2.out.size (.cells (DRow.cells ⟨x1, x2, ⟨y1, y2, y3, y4⟩, xo⟩) 57))
                have HNS := Lib.hid (World.news_of_block (Blk.new w2 (DRow.cells ⟨x1, x2, ⟨y1, y2, y3, y4⟩, xo⟩) 57 w2.heap.size rfl))
                have HKL := Lib.hid (show (keepE (m.sym, m.id) (es.take k)).length ≤ 1000 from Nat.le_trans (keep_len _ _) (by rw [List.length_take]; omega))
                dsimp only [DRow.cells] at hrow HR3 HB3 HNS
                go_wp2_with (first | (refine wpList_load_mid (by rfl) 57 _ (by rfl) g (k * 7) (by rfl) _ _ hrow Try.underlying57 rfl (by kernel_rfl) ?_) | (at_builtin; refine wpList_append_lies _ (by rfl) _ _ _ (by rfl) w4.heap.size 57 i0 (.agg rowZ) 7 56 Try.underlying27 hi0 hz0 hz1 hz2 (by rfl) (by decide) _ (keepE (m.sym, m.id) (es.take k)).length (rowsD (keepE (m.sym, m.id) (es.take k))) (by rfl) HR3.out ⟨w2.heap.size, 0, none⟩ 1 1 _ (by rfl) (by rfl) HNS.out (one_row ⟨x1, x2, ⟨y1, y2, y3, y4⟩, xo⟩) (by decide) (by unfold maxLen; have := HKL.out; omega) (by have := HKL.out; omega) HB3.out.size (w2.heap.size + 1) (by simp) ?_; intro g2 cap2 w5 hown5 hgrow5 hat5 hlt5))
                have HB5 := Lib.hid (HB3.out.grown hgrow5 HB3.out.size (fun k e => (HR3.out.lt k e).1))
                have HR5 := Lib.hid hown5
                clear hown5 hgrow5 hat5 hlt5
                go_roundw
                case rel => exact ⟨k + 1, by omega, by go_num, by rw [HT.out, keep_yes (by rw [HKB.out, b1']; rfl), List.length_append, ← rows_snoc]; exact HR5.out, HB5.out⟩
                case measure => simp [intOf]; omega
            · have hke : k = es.length := by omega
              have hE : keepE (m.sym, m.id) (es.take k) = keepE (m.sym, m.id) es := by rw [hke, List.take_length]
              rw [hE] at HRW ⊢
              clear hke hE
              generalize keepE (m.sym, m.id) es = E5 at HRW HT0 ⊢
              have f1 : wr.frozen? ⟨R, 1, none⟩ = false := HSR.out.box.free 1
              clear hat
              have HMN := Lib.hid (show w.heap.size < w4.heap.size from HM4.out.lt)
              have HN4 := Lib.hid (show N ≤ w4.heap.size by have := HMN.out; have := HNN.out; omega)
              have HS5 := Lib.hid (HS4.out.early (es' := E5) HN4.out HBW.out HRW.out rfl rfl)
              have HM5 := Lib.hid (HMR.out.apart ⟨R, 1, none⟩ (.slice ka E5.length kc) (by show R ≠ w.heap.size; omega))
              have HB5 := Lib.hid (show Chg N R w (wr.setCell ⟨R, 1, none⟩ (.slice ka E5.length kc)) from (Chg.of (HB4.out.trans (HBW.out.mono HN4.out))).setCell _ _ (.inl rfl))
              go_upto_region 16 with fail
              change Code.wp _ _ _ _ (wr.setCell ⟨R, 1, none⟩ (.slice ka E5.length kc))
              generalize wr.setCell ⟨R, 1, none⟩ (.slice ka E5.length kc) = w5 at HS5 HM5 HB5 ⊢
              clear HSR HMR HRW HBW HS4 HM4 HB4 cR c1 c4 f1
              obtain ⟨i0, hi0, hz0, hz1, hz2⟩ := row_parts
              obtain ⟨va, vc, hv, hv1, hv2, -⟩ := owned_at DRow.cells 7 cells_size HS5.out.row
              subst hv
              unfold maxLen at hv2
              refine wp_region_held_drew (S := (fun w' => w'.cell? ⟨w.heap.size, 1, none⟩ = some (.int .i64 m.sym) ∧ w'.cell? ⟨w.heap.size, 4, none⟩ = some (.int .i64 m.id) ∧ w'.cell? ⟨w.heap.size, 5, none⟩ = some (.int .i64 m.wth) ∧ w'.cell? ⟨w.heap.size, 7, none⟩ = some (.int .i64 m.qty))) (by kernel_rfl) ⟨HM5.out.cell 1 rfl, HM5.out.cell 4 rfl, HM5.out.cell 5 rfl, HM5.out.cell 7 rfl⟩ (fun hHeld => ?_)
              have HRS := Lib.hid HS5.out.drew
              have HBE := Lib.hid HB5.out.drew
              have HMW := Lib.hid HM5.out.drew.lt
              generalize w5.drew = w3 at HRS HBE HMW hHeld ⊢
              obtain ⟨n0, hn0⟩ : ∃ n, n = w3.heap.size := ⟨_, rfl⟩
              have HN0 := Lib.hid hn0
              have HN3 := Lib.hid (show N ≤ w3.heap.size from Nat.le_trans HNN.out HBE.out.size)
              have HLD := Lib.hid (show ∀ W, Below n0 w3 W → W.cell? ⟨R, 0, none⟩ = some (.slice va L1.length vc) from fun W hb => (HRS.out.below (hn0 ▸ hb)).box.cell 0 rfl)
              have HFZ := Lib.hid (show ∀ W, Below n0 w3 W → W.frozen? ⟨R, 0, none⟩ = false from fun W hb => (HRS.out.below (hn0 ▸ hb)).box.free 0)
              have HSS := Lib.hid (show ∀ W, Below n0 w3 W → W.cell? ⟨w.heap.size, 1, none⟩ = some (.int .i64 m.sym) ∧ W.cell? ⟨w.heap.size, 4, none⟩ = some (.int .i64 m.id) ∧ W.cell? ⟨w.heap.size, 5, none⟩ = some (.int .i64 m.wth) ∧ W.cell? ⟨w.heap.size, 7, none⟩ = some (.int .i64 m.qty) from fun W hb => by
                have hlt : w.heap.size < n0 := by rw [hn0]; exact HMW.out
                rw [hb.cell (p := ⟨w.heap.size, _, none⟩) hlt, hb.cell (p := ⟨w.heap.size, _, none⟩) hlt, hb.cell (p := ⟨w.heap.size, _, none⟩) hlt, hb.cell (p := ⟨w.heap.size, _, none⟩) hlt]; exact hHeld)
              have HST := Lib.hid (show ∀ (W : World) (x : Value), (W.cell? ⟨w.heap.size, 1, none⟩ = some (.int .i64 m.sym) ∧ W.cell? ⟨w.heap.size, 4, none⟩ = some (.int .i64 m.id) ∧ W.cell? ⟨w.heap.size, 5, none⟩ = some (.int .i64 m.wth) ∧ W.cell? ⟨w.heap.size, 7, none⟩ = some (.int .i64 m.qty)) → (W.setCell ⟨R, 0, none⟩ x).cell? ⟨w.heap.size, 1, none⟩ = some (.int .i64 m.sym) ∧ (W.setCell ⟨R, 0, none⟩ x).cell? ⟨w.heap.size, 4, none⟩ = some (.int .i64 m.id) ∧ (W.setCell ⟨R, 0, none⟩ x).cell? ⟨w.heap.size, 5, none⟩ = some (.int .i64 m.wth) ∧ (W.setCell ⟨R, 0, none⟩ x).cell? ⟨w.heap.size, 7, none⟩ = some (.int .i64 m.qty) from fun W x hh => by
                rw [World.cell?_setCell_far _ _ _ _ (by show R ≠ w.heap.size; omega), World.cell?_setCell_far _ _ _ _ (by show R ≠ w.heap.size; omega), World.cell?_setCell_far _ _ _ _ (by show R ≠ w.heap.size; omega), World.cell?_setCell_far _ _ _ _ (by show R ≠ w.heap.size; omega)]; exact hh)
              have HTL := Lib.hid (rows_len L1)
              have HT1 := Lib.hid (one_rows L1)
              have HTS := Lib.hid (show ∀ W, 0 < L1.length → Below n0 w3 W → ∃ ad : Addr, va = some ad ∧ ∀ j x, (rowsD L1)[j]? = some x → W.cell? (ad.add j) = some x from fun W hp hb => by
                obtain ⟨g, c, hv, -, -⟩ := World.ownsRow.form HRS.out.row hp
                injection hv with hv
                subst hv
                exact ⟨_, rfl, (HRS.out.below (hn0 ▸ hb)).row.cells rfl⟩)
              have H := Lib.hid (show GA n0 57 7 w3 w3 none none from GA.start (Below.refl _ _) (by rw [hn0]; exact Nat.le_refl _))
              have HSE := Lib.hid hHeld
              clear hn0 HS5 HM5 HB5 hv1 hv2
              refine wpAnyH_take (i := 0) (oi := ⟨some 110, _, _, _, _, _⟩) (v := ?_) rfl (by kernel_rfl) (by kernel_rfl) (by kernel_rfl) (fun _ _ _ h => h) (Or.inl ⟨by rfl, ?_⟩) (by assumption) ?_
              rotate_left
              · (intro w hSw; (try dsimp only at hSw); go_simp; (try with_reducible rfl))
              simp only [Act.put, List.setIfInBounds_toArray, List.set_cons_zero, List.set_cons_succ]
              refine wpAnyH_take (i := 2) (oi := ⟨some 112, _, _, _, _, _⟩) (v := ?_) rfl (by kernel_rfl) (by kernel_rfl) (by kernel_rfl) (fun _ _ _ h => h) (Or.inl ⟨by rfl, ?_⟩) (by assumption) ?_
              rotate_left
              · (intro w hSw; (try dsimp only at hSw); go_simp; (try with_reducible rfl))
              simp only [Act.put, List.setIfInBounds_toArray, List.set_cons_zero, List.set_cons_succ]
              refine wpAnyH_take (i := 3) (oi := ⟨some 113, _, _, _, _, _⟩) (v := ?_) rfl (by kernel_rfl) (by kernel_rfl) (by kernel_rfl) (fun _ _ _ h => h) (Or.inl ⟨by rfl, ?_⟩) (by assumption) ?_
              rotate_left
              · (intro w hSw; (try dsimp only at hSw); go_simp; (try with_reducible rfl))
              simp only [Act.put, List.setIfInBounds_toArray, List.set_cons_zero, List.set_cons_succ]
              refine wpAnyH_take (i := 4) (oi := ⟨some 114, _, _, _, _, _⟩) (v := ?_) rfl (by kernel_rfl) (by kernel_rfl) (by kernel_rfl) (fun _ _ _ h => h) (Or.inl ⟨by rfl, ?_⟩) (by assumption) ?_
              rotate_left
              · (intro w hSw; (try dsimp only at hSw); go_simp; (try with_reducible rfl))
              simp only [Act.put, List.setIfInBounds_toArray, List.set_cons_zero, List.set_cons_succ]
              refine wpAnyH_take (i := 7) (oi := ⟨some 117, _, _, _, _, _⟩) (v := ?_) rfl (by kernel_rfl) (by kernel_rfl) (by kernel_rfl) (fun _ _ _ h => h) (Or.inl ⟨by rfl, ?_⟩) (by assumption) ?_
              rotate_left
              · (intro w hSw; (try dsimp only at hSw); go_simp; (try with_reducible rfl))
              simp only [Act.put, List.setIfInBounds_toArray, List.set_cons_zero, List.set_cons_succ]
              refine wpAnyH_take (i := 8) (oi := ⟨some 118, _, _, _, _, _⟩) (v := ?_) rfl (by kernel_rfl) (by kernel_rfl) (by kernel_rfl) (fun _ _ _ h => h) (Or.inl ⟨by rfl, ?_⟩) (by assumption) ?_
              rotate_left
              · (intro w hSw; (try dsimp only at hSw); go_simp; (try with_reducible rfl))
              simp only [Act.put, List.setIfInBounds_toArray, List.set_cons_zero, List.set_cons_succ]
              refine wpAnyH_take (i := 9) (oi := ⟨some 119, _, _, _, _, _⟩) (v := ?_) rfl (by kernel_rfl) (by kernel_rfl) (by kernel_rfl) (fun _ _ _ h => h) (Or.inl ⟨by rfl, ?_⟩) (by assumption) ?_
              rotate_left
              · (intro w hSw; (try dsimp only at hSw); go_simp; (try with_reducible rfl))
              simp only [Act.put, List.setIfInBounds_toArray, List.set_cons_zero, List.set_cons_succ]
              refine wpAnyH_take (i := 10) (oi := ⟨some 120, _, _, _, _, _⟩) (v := ?_) rfl (by kernel_rfl) (by kernel_rfl) (by kernel_rfl) (fun _ _ _ h => h) (Or.inl ⟨by rfl, ?_⟩) (by assumption) ?_
              rotate_left
              · (intro w hSw; (try dsimp only at hSw); go_simp; (try with_reducible rfl))
              simp only [Act.put, List.setIfInBounds_toArray, List.set_cons_zero, List.set_cons_succ]
              refine wpAnyH_take (i := 11) (oi := ⟨some 121, _, _, _, _, _⟩) (v := ?_) rfl (by kernel_rfl) (by kernel_rfl) (by kernel_rfl) (fun _ _ _ h => h) (Or.inl ⟨by rfl, ?_⟩) (by assumption) ?_
              rotate_left
              · (intro w hSw; (try dsimp only at hSw); go_simp; (try with_reducible rfl))
              simp only [Act.put, List.setIfInBounds_toArray, List.set_cons_zero, List.set_cons_succ]
              refine wpAnyH_take (i := 12) (oi := ⟨some 122, _, _, _, _, _⟩) (v := ?_) rfl (by kernel_rfl) (by kernel_rfl) (by kernel_rfl) (fun _ _ _ h => h) (Or.inl ⟨by rfl, ?_⟩) (by assumption) ?_
              rotate_left
              · (intro w hSw; (try dsimp only at hSw); go_simp; (try with_reducible rfl))
              simp only [Act.put, List.setIfInBounds_toArray, List.set_cons_zero, List.set_cons_succ]
              refine wpAnyH_take (i := 13) (oi := ⟨some 123, _, _, _, _, _⟩) (v := ?_) rfl (by kernel_rfl) (by kernel_rfl) (by kernel_rfl) (fun _ _ _ h => h) (Or.inl ⟨by rfl, ?_⟩) (by assumption) ?_
              rotate_left
              · (intro w hSw; (try dsimp only at hSw); go_simp; (try with_reducible rfl))
              simp only [Act.put, List.setIfInBounds_toArray, List.set_cons_zero, List.set_cons_succ]
              refine wpAnyH_take (i := 14) (oi := ⟨some 124, _, _, _, _, _⟩) (v := ?_) rfl (by kernel_rfl) (by kernel_rfl) (by kernel_rfl) (fun _ _ _ h => h) (Or.inl ⟨by rfl, ?_⟩) (by assumption) ?_
              rotate_left
              · (intro w hSw; (try dsimp only at hSw); go_simp; (try with_reducible rfl))
              simp only [Act.put, List.setIfInBounds_toArray, List.set_cons_zero, List.set_cons_succ]
              refine wpAnyH_take (i := 15) (oi := ⟨some 125, _, _, _, _, _⟩) (v := ?_) rfl (by kernel_rfl) (by kernel_rfl) (by kernel_rfl) (fun _ _ _ h => h) (Or.inl ⟨by rfl, ?_⟩) (by assumption) ?_
              rotate_left
              · (intro w hSw; (try dsimp only at hSw); go_simp; (try with_reducible rfl))
              simp only [Act.put, List.setIfInBounds_toArray, List.set_cons_zero, List.set_cons_succ]
              refine wpAnyH_take (i := 16) (oi := ⟨some 126, _, _, _, _, _⟩) (v := ?_) rfl (by kernel_rfl) (by kernel_rfl) (by kernel_rfl) (fun _ _ _ h => h) (Or.inl ⟨by rfl, ?_⟩) (by assumption) ?_
              rotate_left
              · (intro w hSw; (try dsimp only at hSw); go_simp; (try with_reducible rfl))
              simp only [Act.put, List.setIfInBounds_toArray, List.set_cons_zero, List.set_cons_succ]
              refine wpAnyH_take (i := 17) (oi := ⟨some 127, _, _, _, _, _⟩) (v := ?_) rfl (by kernel_rfl) (by kernel_rfl) (by kernel_rfl) (fun _ _ _ h => h) (Or.inl ⟨by rfl, ?_⟩) (by assumption) ?_
              rotate_left
              · (intro w hSw; (try dsimp only at hSw); go_simp; (try with_reducible rfl))
              simp only [Act.put, List.setIfInBounds_toArray, List.set_cons_zero, List.set_cons_succ]
              refine wpAnyH_ready (rs := [1, 5, 18]) (by kernel_rfl) (by simp) ?_
              refine AllReadyH.cons (o := ⟨some 111, _, _, _, _, _⟩) rfl (fun KK hK => ?_) (AllReadyH.cons (o := ⟨some 115, _, _, _, _, _⟩) rfl (fun KK hK => ?_) (AllReadyH.cons (o := ⟨some 128, _, _, _, _, _⟩) rfl (fun KK hK => ?_) (AllReadyH.nil)))
              · go_simp
                change KK _ (w3.alloc (.cells #[] 57))
                replace H := Lib.hid H.out.empty
                generalize w3.alloc (.cells #[] 57) = WX1 at H ⊢
                generalize w3.heap.size = e1 at H ⊢
                replace HSE := Lib.hid (HSS.out _ H.out.bel)
                refine hK.out _ _ HSE.out (fun hHeld => ?_)
                clear hK; try clear KK
                try simp only [Act.put, List.setIfInBounds_toArray, List.set_cons_zero, List.set_cons_succ]
                refine wpAnyH_ready (rs := [5, 18]) (by kernel_rfl) (by simp) ?_
                refine AllReadyH.cons (o := ⟨some 115, _, _, _, _, _⟩) rfl (fun KK hK => ?_) (AllReadyH.cons (o := ⟨some 128, _, _, _, _, _⟩) rfl (fun KK hK => ?_) (AllReadyH.nil))
                · have cL := HLD.out _ H.out.bel
                  go_simp
                  clear cL
                  refine hK.out _ _ HSE.out (fun hHeld => ?_)
                  clear hK; try clear KK
                  try simp only [Act.put, List.setIfInBounds_toArray, List.set_cons_zero, List.set_cons_succ]
                  refine wpAnyH_ready (rs := [6, 18]) (by kernel_rfl) (by simp) ?_
                  refine AllReadyH.cons (o := ⟨some 116, _, _, _, _, _⟩) rfl (fun KK hK => ?_) (AllReadyH.cons (o := ⟨some 128, _, _, _, _, _⟩) rfl (fun KK hK => ?_) (AllReadyH.nil))
                  · refine GA.src H.out (by rfl) _ _ _ (by rfl) i0 (.agg rowZ) 56 Try.underlying27 hi0 hz0 hz1 hz2 (by rfl) (by decide) (by rfl) _ _ _ _ (by rfl) HTL.out (fun hm => HTS.out _ hm H.out.bel) HT1.out (by unfold maxLen; omega) (by omega) ?_
                    intro g1 cap1 WX2 H'
                    rw [Nat.zero_add, List.nil_append] at H'
                    rw [Nat.zero_add]
                    replace H := Lib.hid H'
                    clear H'
                    replace HSE := Lib.hid (HSS.out _ H.out.bel)
                    refine hK.out _ _ HSE.out (fun hHeld => ?_)
                    clear hK; try clear KK
                    try simp only [Act.put, List.setIfInBounds_toArray, List.set_cons_zero, List.set_cons_succ]
                    refine wpAnyH_ready (rs := [18]) (by kernel_rfl) (by simp) ?_
                    refine AllReadyH.cons (o := ⟨some 128, _, _, _, _, _⟩) rfl (fun KK hK => ?_) AllReadyH.nil
                    go_simp
                    change KK _ (WX2.alloc (.cells (DRow.cells (ackR m y)) 57))
                    replace H := Lib.hid (H.out.new (DRow.cells (ackR m y)))
                    generalize WX2.alloc (.cells (DRow.cells (ackR m y)) 57) = WX3 at H ⊢
                    generalize WX2.heap.size = nb1 at H ⊢
                    replace HSE := Lib.hid (HSS.out _ H.out.bel)
                    refine hK.out _ _ HSE.out (fun hHeld => ?_)
                    clear hK; try clear KK
                    try simp only [Act.put, List.setIfInBounds_toArray, List.set_cons_zero, List.set_cons_succ]
                    refine wpAnyH_ready (rs := [19]) (by kernel_rfl) (by simp) ?_
                    refine AllReadyH.cons (o := ⟨some 129, _, _, _, _, _⟩) rfl (fun KK hK => ?_) AllReadyH.nil
                    refine GA.app H.out (by rfl) _ _ _ (by rfl) i0 (.agg rowZ) 56 Try.underlying27 hi0 hz0 hz1 hz2 (by rfl) (by decide) (by rfl) (by rfl) (cells_size _) (one_row _) (by unfold maxLen; omega) (by omega) ?_
                    intro g2 cap2 WX4 H'
                    replace H := Lib.hid H'
                    clear H'
                    replace HSE := Lib.hid (HSS.out _ H.out.bel)
                    refine hK.out _ _ HSE.out (fun hHeld => ?_)
                    clear hK; try clear KK
                    try simp only [Act.put, List.setIfInBounds_toArray, List.set_cons_zero, List.set_cons_succ]
                    refine wpAnyH_take (i := 20) (oi := ⟨some 130, _, _, _, _, _⟩) (v := ?_) rfl (by kernel_rfl) (by kernel_rfl) (by kernel_rfl) (fun _ _ _ h => h) (Or.inl ⟨by rfl, ?_⟩) (by assumption) ?_
                    rotate_left
                    · (intro w hSw; (try dsimp only at hSw); go_simp; (try with_reducible rfl))
                    simp only [Act.put, List.setIfInBounds_toArray, List.set_cons_zero, List.set_cons_succ]
                    refine wpAnyH_take (i := 21) (oi := ⟨some 131, _, _, _, _, _⟩) (v := ?_) rfl (by kernel_rfl) (by kernel_rfl) (by kernel_rfl) (fun _ _ _ h => h) (Or.inl ⟨by rfl, ?_⟩) (by assumption) ?_
                    rotate_left
                    · (intro w hSw; (try dsimp only at hSw); go_simp; (try with_reducible rfl))
                    simp only [Act.put, List.setIfInBounds_toArray, List.set_cons_zero, List.set_cons_succ]
                    refine wpAnyH_ready (rs := [22]) (by kernel_rfl) (by simp) ?_
                    refine AllReadyH.cons (o := ⟨none, _, _, _, _, _⟩) rfl (fun KK hK => ?_) AllReadyH.nil
                    have cL := HLD.out _ H.out.bel
                    have fL := HFZ.out _ H.out.bel
                    go_simp
                    clear cL fL
                    have HFIN := Lib.hid (HRS.out.push1 (l' := L1 ++ [ackR m y]) HN3.out (HN0.out ▸ H.out) (by simp) (rows_snoc L1 (ackR m y)))
                    have HCH := Lib.hid (chg_push' (x := .slice (some ⟨g2, 0, none⟩) (L1.length + 1) cap2) HBE.out HN3.out (HN0.out ▸ H.out) 0)
                    change KK _ (WX4.setCell ⟨R, 0, none⟩ (.slice (some ⟨g2, 0, none⟩) (L1.length + 1) cap2))
                    replace HSE := Lib.hid (HST.out _ (.slice (some ⟨g2, 0, none⟩) (L1.length + 1) cap2) (HSS.out _ H.out.bel))
                    generalize WX4.setCell ⟨R, 0, none⟩ (.slice (some ⟨g2, 0, none⟩) (L1.length + 1) cap2) = WX5 at HFIN HCH HSE ⊢
                    refine hK.out _ _ HSE.out (fun hHeld => ?_)
                    clear hK; try clear KK
                    refine wpAnyH_done (by kernel_rfl) ?_ _
                    go_wp2_with fail
                    go_ret
                    exact ⟨⟨_, rfl⟩, ⟨_, _, by rw [HT0.out]; exact HFIN.out⟩, HCH.out⟩
                  · go_simp
                    change KK _ (WX1.alloc (.cells (DRow.cells (ackR m y)) 57))
                    replace H := Lib.hid (H.out.new (DRow.cells (ackR m y)))
                    generalize WX1.alloc (.cells (DRow.cells (ackR m y)) 57) = WX6 at H ⊢
                    generalize WX1.heap.size = nb1 at H ⊢
                    replace HSE := Lib.hid (HSS.out _ H.out.bel)
                    refine hK.out _ _ HSE.out (fun hHeld => ?_)
                    clear hK; try clear KK
                    try simp only [Act.put, List.setIfInBounds_toArray, List.set_cons_zero, List.set_cons_succ]
                    refine wpAnyH_ready (rs := [6]) (by kernel_rfl) (by simp) ?_
                    refine AllReadyH.cons (o := ⟨some 116, _, _, _, _, _⟩) rfl (fun KK hK => ?_) AllReadyH.nil
                    refine GA.src H.out (by rfl) _ _ _ (by rfl) i0 (.agg rowZ) 56 Try.underlying27 hi0 hz0 hz1 hz2 (by rfl) (by decide) (by rfl) _ _ _ _ (by rfl) HTL.out (fun hm => HTS.out _ hm H.out.bel) HT1.out (by unfold maxLen; omega) (by omega) ?_
                    intro g1 cap1 WX7 H'
                    rw [Nat.zero_add, List.nil_append] at H'
                    rw [Nat.zero_add]
                    replace H := Lib.hid H'
                    clear H'
                    replace HSE := Lib.hid (HSS.out _ H.out.bel)
                    refine hK.out _ _ HSE.out (fun hHeld => ?_)
                    clear hK; try clear KK
                    try simp only [Act.put, List.setIfInBounds_toArray, List.set_cons_zero, List.set_cons_succ]
                    refine wpAnyH_ready (rs := [19]) (by kernel_rfl) (by simp) ?_
                    refine AllReadyH.cons (o := ⟨some 129, _, _, _, _, _⟩) rfl (fun KK hK => ?_) AllReadyH.nil
                    refine GA.app H.out (by rfl) _ _ _ (by rfl) i0 (.agg rowZ) 56 Try.underlying27 hi0 hz0 hz1 hz2 (by rfl) (by decide) (by rfl) (by rfl) (cells_size _) (one_row _) (by unfold maxLen; omega) (by omega) ?_
                    intro g2 cap2 WX8 H'
                    replace H := Lib.hid H'
                    clear H'
                    replace HSE := Lib.hid (HSS.out _ H.out.bel)
                    refine hK.out _ _ HSE.out (fun hHeld => ?_)
                    clear hK; try clear KK
                    try simp only [Act.put, List.setIfInBounds_toArray, List.set_cons_zero, List.set_cons_succ]
                    refine wpAnyH_take (i := 20) (oi := ⟨some 130, _, _, _, _, _⟩) (v := ?_) rfl (by kernel_rfl) (by kernel_rfl) (by kernel_rfl) (fun _ _ _ h => h) (Or.inl ⟨by rfl, ?_⟩) (by assumption) ?_
                    rotate_left
                    · (intro w hSw; (try dsimp only at hSw); go_simp; (try with_reducible rfl))
                    simp only [Act.put, List.setIfInBounds_toArray, List.set_cons_zero, List.set_cons_succ]
                    refine wpAnyH_take (i := 21) (oi := ⟨some 131, _, _, _, _, _⟩) (v := ?_) rfl (by kernel_rfl) (by kernel_rfl) (by kernel_rfl) (fun _ _ _ h => h) (Or.inl ⟨by rfl, ?_⟩) (by assumption) ?_
                    rotate_left
                    · (intro w hSw; (try dsimp only at hSw); go_simp; (try with_reducible rfl))
                    simp only [Act.put, List.setIfInBounds_toArray, List.set_cons_zero, List.set_cons_succ]
                    refine wpAnyH_ready (rs := [22]) (by kernel_rfl) (by simp) ?_
                    refine AllReadyH.cons (o := ⟨none, _, _, _, _, _⟩) rfl (fun KK hK => ?_) AllReadyH.nil
                    have cL := HLD.out _ H.out.bel
                    have fL := HFZ.out _ H.out.bel
                    go_simp
                    clear cL fL
                    have HFIN := Lib.hid (HRS.out.push1 (l' := L1 ++ [ackR m y]) HN3.out (HN0.out ▸ H.out) (by simp) (rows_snoc L1 (ackR m y)))
                    have HCH := Lib.hid (chg_push' (x := .slice (some ⟨g2, 0, none⟩) (L1.length + 1) cap2) HBE.out HN3.out (HN0.out ▸ H.out) 0)
                    change KK _ (WX8.setCell ⟨R, 0, none⟩ (.slice (some ⟨g2, 0, none⟩) (L1.length + 1) cap2))
                    replace HSE := Lib.hid (HST.out _ (.slice (some ⟨g2, 0, none⟩) (L1.length + 1) cap2) (HSS.out _ H.out.bel))
                    generalize WX8.setCell ⟨R, 0, none⟩ (.slice (some ⟨g2, 0, none⟩) (L1.length + 1) cap2) = WX9 at HFIN HCH HSE ⊢
                    refine hK.out _ _ HSE.out (fun hHeld => ?_)
                    clear hK; try clear KK
                    refine wpAnyH_done (by kernel_rfl) ?_ _
                    go_wp2_with fail
                    go_ret
                    exact ⟨⟨_, rfl⟩, ⟨_, _, by rw [HT0.out]; exact HFIN.out⟩, HCH.out⟩
                · go_simp
                  change KK _ (WX1.alloc (.cells (DRow.cells (ackR m y)) 57))
                  replace H := Lib.hid (H.out.new (DRow.cells (ackR m y)))
                  generalize WX1.alloc (.cells (DRow.cells (ackR m y)) 57) = WX10 at H ⊢
                  generalize WX1.heap.size = nb1 at H ⊢
                  replace HSE := Lib.hid (HSS.out _ H.out.bel)
                  refine hK.out _ _ HSE.out (fun hHeld => ?_)
                  clear hK; try clear KK
                  try simp only [Act.put, List.setIfInBounds_toArray, List.set_cons_zero, List.set_cons_succ]
                  refine wpAnyH_ready (rs := [5]) (by kernel_rfl) (by simp) ?_
                  refine AllReadyH.cons (o := ⟨some 115, _, _, _, _, _⟩) rfl (fun KK hK => ?_) AllReadyH.nil
                  have cL := HLD.out _ H.out.bel
                  go_simp
                  clear cL
                  refine hK.out _ _ HSE.out (fun hHeld => ?_)
                  clear hK; try clear KK
                  try simp only [Act.put, List.setIfInBounds_toArray, List.set_cons_zero, List.set_cons_succ]
                  refine wpAnyH_ready (rs := [6]) (by kernel_rfl) (by simp) ?_
                  refine AllReadyH.cons (o := ⟨some 116, _, _, _, _, _⟩) rfl (fun KK hK => ?_) AllReadyH.nil
                  refine GA.src H.out (by rfl) _ _ _ (by rfl) i0 (.agg rowZ) 56 Try.underlying27 hi0 hz0 hz1 hz2 (by rfl) (by decide) (by rfl) _ _ _ _ (by rfl) HTL.out (fun hm => HTS.out _ hm H.out.bel) HT1.out (by unfold maxLen; omega) (by omega) ?_
                  intro g1 cap1 WX11 H'
                  rw [Nat.zero_add, List.nil_append] at H'
                  rw [Nat.zero_add]
                  replace H := Lib.hid H'
                  clear H'
                  replace HSE := Lib.hid (HSS.out _ H.out.bel)
                  refine hK.out _ _ HSE.out (fun hHeld => ?_)
                  clear hK; try clear KK
                  try simp only [Act.put, List.setIfInBounds_toArray, List.set_cons_zero, List.set_cons_succ]
                  refine wpAnyH_ready (rs := [19]) (by kernel_rfl) (by simp) ?_
                  refine AllReadyH.cons (o := ⟨some 129, _, _, _, _, _⟩) rfl (fun KK hK => ?_) AllReadyH.nil
                  refine GA.app H.out (by rfl) _ _ _ (by rfl) i0 (.agg rowZ) 56 Try.underlying27 hi0 hz0 hz1 hz2 (by rfl) (by decide) (by rfl) (by rfl) (cells_size _) (one_row _) (by unfold maxLen; omega) (by omega) ?_
                  intro g2 cap2 WX12 H'
                  replace H := Lib.hid H'
                  clear H'
                  replace HSE := Lib.hid (HSS.out _ H.out.bel)
                  refine hK.out _ _ HSE.out (fun hHeld => ?_)
                  clear hK; try clear KK
                  try simp only [Act.put, List.setIfInBounds_toArray, List.set_cons_zero, List.set_cons_succ]
                  refine wpAnyH_take (i := 20) (oi := ⟨some 130, _, _, _, _, _⟩) (v := ?_) rfl (by kernel_rfl) (by kernel_rfl) (by kernel_rfl) (fun _ _ _ h => h) (Or.inl ⟨by rfl, ?_⟩) (by assumption) ?_
                  rotate_left
                  · (intro w hSw; (try dsimp only at hSw); go_simp; (try with_reducible rfl))
                  simp only [Act.put, List.setIfInBounds_toArray, List.set_cons_zero, List.set_cons_succ]
                  refine wpAnyH_take (i := 21) (oi := ⟨some 131, _, _, _, _, _⟩) (v := ?_) rfl (by kernel_rfl) (by kernel_rfl) (by kernel_rfl) (fun _ _ _ h => h) (Or.inl ⟨by rfl, ?_⟩) (by assumption) ?_
                  rotate_left
                  · (intro w hSw; (try dsimp only at hSw); go_simp; (try with_reducible rfl))
                  simp only [Act.put, List.setIfInBounds_toArray, List.set_cons_zero, List.set_cons_succ]
                  refine wpAnyH_ready (rs := [22]) (by kernel_rfl) (by simp) ?_
                  refine AllReadyH.cons (o := ⟨none, _, _, _, _, _⟩) rfl (fun KK hK => ?_) AllReadyH.nil
                  have cL := HLD.out _ H.out.bel
                  have fL := HFZ.out _ H.out.bel
                  go_simp
                  clear cL fL
                  have HFIN := Lib.hid (HRS.out.push1 (l' := L1 ++ [ackR m y]) HN3.out (HN0.out ▸ H.out) (by simp) (rows_snoc L1 (ackR m y)))
                  have HCH := Lib.hid (chg_push' (x := .slice (some ⟨g2, 0, none⟩) (L1.length + 1) cap2) HBE.out HN3.out (HN0.out ▸ H.out) 0)
                  change KK _ (WX12.setCell ⟨R, 0, none⟩ (.slice (some ⟨g2, 0, none⟩) (L1.length + 1) cap2))
                  replace HSE := Lib.hid (HST.out _ (.slice (some ⟨g2, 0, none⟩) (L1.length + 1) cap2) (HSS.out _ H.out.bel))
                  generalize WX12.setCell ⟨R, 0, none⟩ (.slice (some ⟨g2, 0, none⟩) (L1.length + 1) cap2) = WX13 at HFIN HCH HSE ⊢
                  refine hK.out _ _ HSE.out (fun hHeld => ?_)
                  clear hK; try clear KK
                  refine wpAnyH_done (by kernel_rfl) ?_ _
                  go_wp2_with fail
                  go_ret
                  exact ⟨⟨_, rfl⟩, ⟨_, _, by rw [HT0.out]; exact HFIN.out⟩, HCH.out⟩
              · have cL := HLD.out _ H.out.bel
                go_simp
                clear cL
                refine hK.out _ _ HSE.out (fun hHeld => ?_)
                clear hK; try clear KK
                try simp only [Act.put, List.setIfInBounds_toArray, List.set_cons_zero, List.set_cons_succ]
                refine wpAnyH_ready (rs := [1, 18]) (by kernel_rfl) (by simp) ?_
                refine AllReadyH.cons (o := ⟨some 111, _, _, _, _, _⟩) rfl (fun KK hK => ?_) (AllReadyH.cons (o := ⟨some 128, _, _, _, _, _⟩) rfl (fun KK hK => ?_) (AllReadyH.nil))
                · go_simp
                  change KK _ (w3.alloc (.cells #[] 57))
                  replace H := Lib.hid H.out.empty
                  generalize w3.alloc (.cells #[] 57) = WX14 at H ⊢
                  generalize w3.heap.size = e1 at H ⊢
                  replace HSE := Lib.hid (HSS.out _ H.out.bel)
                  refine hK.out _ _ HSE.out (fun hHeld => ?_)
                  clear hK; try clear KK
                  try simp only [Act.put, List.setIfInBounds_toArray, List.set_cons_zero, List.set_cons_succ]
                  refine wpAnyH_ready (rs := [6, 18]) (by kernel_rfl) (by simp) ?_
                  refine AllReadyH.cons (o := ⟨some 116, _, _, _, _, _⟩) rfl (fun KK hK => ?_) (AllReadyH.cons (o := ⟨some 128, _, _, _, _, _⟩) rfl (fun KK hK => ?_) (AllReadyH.nil))
                  · refine GA.src H.out (by rfl) _ _ _ (by rfl) i0 (.agg rowZ) 56 Try.underlying27 hi0 hz0 hz1 hz2 (by rfl) (by decide) (by rfl) _ _ _ _ (by rfl) HTL.out (fun hm => HTS.out _ hm H.out.bel) HT1.out (by unfold maxLen; omega) (by omega) ?_
                    intro g1 cap1 WX15 H'
                    rw [Nat.zero_add, List.nil_append] at H'
                    rw [Nat.zero_add]
                    replace H := Lib.hid H'
                    clear H'
                    replace HSE := Lib.hid (HSS.out _ H.out.bel)
                    refine hK.out _ _ HSE.out (fun hHeld => ?_)
                    clear hK; try clear KK
                    try simp only [Act.put, List.setIfInBounds_toArray, List.set_cons_zero, List.set_cons_succ]
                    refine wpAnyH_ready (rs := [18]) (by kernel_rfl) (by simp) ?_
                    refine AllReadyH.cons (o := ⟨some 128, _, _, _, _, _⟩) rfl (fun KK hK => ?_) AllReadyH.nil
                    go_simp
                    change KK _ (WX15.alloc (.cells (DRow.cells (ackR m y)) 57))
                    replace H := Lib.hid (H.out.new (DRow.cells (ackR m y)))
                    generalize WX15.alloc (.cells (DRow.cells (ackR m y)) 57) = WX16 at H ⊢
                    generalize WX15.heap.size = nb1 at H ⊢
                    replace HSE := Lib.hid (HSS.out _ H.out.bel)
                    refine hK.out _ _ HSE.out (fun hHeld => ?_)
                    clear hK; try clear KK
                    try simp only [Act.put, List.setIfInBounds_toArray, List.set_cons_zero, List.set_cons_succ]
                    refine wpAnyH_ready (rs := [19]) (by kernel_rfl) (by simp) ?_
                    refine AllReadyH.cons (o := ⟨some 129, _, _, _, _, _⟩) rfl (fun KK hK => ?_) AllReadyH.nil
                    refine GA.app H.out (by rfl) _ _ _ (by rfl) i0 (.agg rowZ) 56 Try.underlying27 hi0 hz0 hz1 hz2 (by rfl) (by decide) (by rfl) (by rfl) (cells_size _) (one_row _) (by unfold maxLen; omega) (by omega) ?_
                    intro g2 cap2 WX17 H'
                    replace H := Lib.hid H'
                    clear H'
                    replace HSE := Lib.hid (HSS.out _ H.out.bel)
                    refine hK.out _ _ HSE.out (fun hHeld => ?_)
                    clear hK; try clear KK
                    try simp only [Act.put, List.setIfInBounds_toArray, List.set_cons_zero, List.set_cons_succ]
                    refine wpAnyH_take (i := 20) (oi := ⟨some 130, _, _, _, _, _⟩) (v := ?_) rfl (by kernel_rfl) (by kernel_rfl) (by kernel_rfl) (fun _ _ _ h => h) (Or.inl ⟨by rfl, ?_⟩) (by assumption) ?_
                    rotate_left
                    · (intro w hSw; (try dsimp only at hSw); go_simp; (try with_reducible rfl))
                    simp only [Act.put, List.setIfInBounds_toArray, List.set_cons_zero, List.set_cons_succ]
                    refine wpAnyH_take (i := 21) (oi := ⟨some 131, _, _, _, _, _⟩) (v := ?_) rfl (by kernel_rfl) (by kernel_rfl) (by kernel_rfl) (fun _ _ _ h => h) (Or.inl ⟨by rfl, ?_⟩) (by assumption) ?_
                    rotate_left
                    · (intro w hSw; (try dsimp only at hSw); go_simp; (try with_reducible rfl))
                    simp only [Act.put, List.setIfInBounds_toArray, List.set_cons_zero, List.set_cons_succ]
                    refine wpAnyH_ready (rs := [22]) (by kernel_rfl) (by simp) ?_
                    refine AllReadyH.cons (o := ⟨none, _, _, _, _, _⟩) rfl (fun KK hK => ?_) AllReadyH.nil
                    have cL := HLD.out _ H.out.bel
                    have fL := HFZ.out _ H.out.bel
                    go_simp
                    clear cL fL
                    have HFIN := Lib.hid (HRS.out.push1 (l' := L1 ++ [ackR m y]) HN3.out (HN0.out ▸ H.out) (by simp) (rows_snoc L1 (ackR m y)))
                    have HCH := Lib.hid (chg_push' (x := .slice (some ⟨g2, 0, none⟩) (L1.length + 1) cap2) HBE.out HN3.out (HN0.out ▸ H.out) 0)
                    change KK _ (WX17.setCell ⟨R, 0, none⟩ (.slice (some ⟨g2, 0, none⟩) (L1.length + 1) cap2))
                    replace HSE := Lib.hid (HST.out _ (.slice (some ⟨g2, 0, none⟩) (L1.length + 1) cap2) (HSS.out _ H.out.bel))
                    generalize WX17.setCell ⟨R, 0, none⟩ (.slice (some ⟨g2, 0, none⟩) (L1.length + 1) cap2) = WX18 at HFIN HCH HSE ⊢
                    refine hK.out _ _ HSE.out (fun hHeld => ?_)
                    clear hK; try clear KK
                    refine wpAnyH_done (by kernel_rfl) ?_ _
                    go_wp2_with fail
                    go_ret
                    exact ⟨⟨_, rfl⟩, ⟨_, _, by rw [HT0.out]; exact HFIN.out⟩, HCH.out⟩
                  · go_simp
                    change KK _ (WX14.alloc (.cells (DRow.cells (ackR m y)) 57))
                    replace H := Lib.hid (H.out.new (DRow.cells (ackR m y)))
                    generalize WX14.alloc (.cells (DRow.cells (ackR m y)) 57) = WX19 at H ⊢
                    generalize WX14.heap.size = nb1 at H ⊢
                    replace HSE := Lib.hid (HSS.out _ H.out.bel)
                    refine hK.out _ _ HSE.out (fun hHeld => ?_)
                    clear hK; try clear KK
                    try simp only [Act.put, List.setIfInBounds_toArray, List.set_cons_zero, List.set_cons_succ]
                    refine wpAnyH_ready (rs := [6]) (by kernel_rfl) (by simp) ?_
                    refine AllReadyH.cons (o := ⟨some 116, _, _, _, _, _⟩) rfl (fun KK hK => ?_) AllReadyH.nil
                    refine GA.src H.out (by rfl) _ _ _ (by rfl) i0 (.agg rowZ) 56 Try.underlying27 hi0 hz0 hz1 hz2 (by rfl) (by decide) (by rfl) _ _ _ _ (by rfl) HTL.out (fun hm => HTS.out _ hm H.out.bel) HT1.out (by unfold maxLen; omega) (by omega) ?_
                    intro g1 cap1 WX20 H'
                    rw [Nat.zero_add, List.nil_append] at H'
                    rw [Nat.zero_add]
                    replace H := Lib.hid H'
                    clear H'
                    replace HSE := Lib.hid (HSS.out _ H.out.bel)
                    refine hK.out _ _ HSE.out (fun hHeld => ?_)
                    clear hK; try clear KK
                    try simp only [Act.put, List.setIfInBounds_toArray, List.set_cons_zero, List.set_cons_succ]
                    refine wpAnyH_ready (rs := [19]) (by kernel_rfl) (by simp) ?_
                    refine AllReadyH.cons (o := ⟨some 129, _, _, _, _, _⟩) rfl (fun KK hK => ?_) AllReadyH.nil
                    refine GA.app H.out (by rfl) _ _ _ (by rfl) i0 (.agg rowZ) 56 Try.underlying27 hi0 hz0 hz1 hz2 (by rfl) (by decide) (by rfl) (by rfl) (cells_size _) (one_row _) (by unfold maxLen; omega) (by omega) ?_
                    intro g2 cap2 WX21 H'
                    replace H := Lib.hid H'
                    clear H'
                    replace HSE := Lib.hid (HSS.out _ H.out.bel)
                    refine hK.out _ _ HSE.out (fun hHeld => ?_)
                    clear hK; try clear KK
                    try simp only [Act.put, List.setIfInBounds_toArray, List.set_cons_zero, List.set_cons_succ]
                    refine wpAnyH_take (i := 20) (oi := ⟨some 130, _, _, _, _, _⟩) (v := ?_) rfl (by kernel_rfl) (by kernel_rfl) (by kernel_rfl) (fun _ _ _ h => h) (Or.inl ⟨by rfl, ?_⟩) (by assumption) ?_
                    rotate_left
                    · (intro w hSw; (try dsimp only at hSw); go_simp; (try with_reducible rfl))
                    simp only [Act.put, List.setIfInBounds_toArray, List.set_cons_zero, List.set_cons_succ]
                    refine wpAnyH_take (i := 21) (oi := ⟨some 131, _, _, _, _, _⟩) (v := ?_) rfl (by kernel_rfl) (by kernel_rfl) (by kernel_rfl) (fun _ _ _ h => h) (Or.inl ⟨by rfl, ?_⟩) (by assumption) ?_
                    rotate_left
                    · (intro w hSw; (try dsimp only at hSw); go_simp; (try with_reducible rfl))
                    simp only [Act.put, List.setIfInBounds_toArray, List.set_cons_zero, List.set_cons_succ]
                    refine wpAnyH_ready (rs := [22]) (by kernel_rfl) (by simp) ?_
                    refine AllReadyH.cons (o := ⟨none, _, _, _, _, _⟩) rfl (fun KK hK => ?_) AllReadyH.nil
                    have cL := HLD.out _ H.out.bel
                    have fL := HFZ.out _ H.out.bel
                    go_simp
                    clear cL fL
                    have HFIN := Lib.hid (HRS.out.push1 (l' := L1 ++ [ackR m y]) HN3.out (HN0.out ▸ H.out) (by simp) (rows_snoc L1 (ackR m y)))
                    have HCH := Lib.hid (chg_push' (x := .slice (some ⟨g2, 0, none⟩) (L1.length + 1) cap2) HBE.out HN3.out (HN0.out ▸ H.out) 0)
                    change KK _ (WX21.setCell ⟨R, 0, none⟩ (.slice (some ⟨g2, 0, none⟩) (L1.length + 1) cap2))
                    replace HSE := Lib.hid (HST.out _ (.slice (some ⟨g2, 0, none⟩) (L1.length + 1) cap2) (HSS.out _ H.out.bel))
                    generalize WX21.setCell ⟨R, 0, none⟩ (.slice (some ⟨g2, 0, none⟩) (L1.length + 1) cap2) = WX22 at HFIN HCH HSE ⊢
                    refine hK.out _ _ HSE.out (fun hHeld => ?_)
                    clear hK; try clear KK
                    refine wpAnyH_done (by kernel_rfl) ?_ _
                    go_wp2_with fail
                    go_ret
                    exact ⟨⟨_, rfl⟩, ⟨_, _, by rw [HT0.out]; exact HFIN.out⟩, HCH.out⟩
                · go_simp
                  change KK _ (w3.alloc (.cells (DRow.cells (ackR m y)) 57))
                  replace H := Lib.hid (H.out.new (DRow.cells (ackR m y)))
                  generalize w3.alloc (.cells (DRow.cells (ackR m y)) 57) = WX23 at H ⊢
                  generalize w3.heap.size = nb1 at H ⊢
                  replace HSE := Lib.hid (HSS.out _ H.out.bel)
                  refine hK.out _ _ HSE.out (fun hHeld => ?_)
                  clear hK; try clear KK
                  try simp only [Act.put, List.setIfInBounds_toArray, List.set_cons_zero, List.set_cons_succ]
                  refine wpAnyH_ready (rs := [1]) (by kernel_rfl) (by simp) ?_
                  refine AllReadyH.cons (o := ⟨some 111, _, _, _, _, _⟩) rfl (fun KK hK => ?_) AllReadyH.nil
                  go_simp
                  change KK _ (WX23.alloc (.cells #[] 57))
                  replace H := Lib.hid H.out.empty
                  generalize WX23.alloc (.cells #[] 57) = WX24 at H ⊢
                  generalize WX23.heap.size = e1 at H ⊢
                  replace HSE := Lib.hid (HSS.out _ H.out.bel)
                  refine hK.out _ _ HSE.out (fun hHeld => ?_)
                  clear hK; try clear KK
                  try simp only [Act.put, List.setIfInBounds_toArray, List.set_cons_zero, List.set_cons_succ]
                  refine wpAnyH_ready (rs := [6]) (by kernel_rfl) (by simp) ?_
                  refine AllReadyH.cons (o := ⟨some 116, _, _, _, _, _⟩) rfl (fun KK hK => ?_) AllReadyH.nil
                  refine GA.src H.out (by rfl) _ _ _ (by rfl) i0 (.agg rowZ) 56 Try.underlying27 hi0 hz0 hz1 hz2 (by rfl) (by decide) (by rfl) _ _ _ _ (by rfl) HTL.out (fun hm => HTS.out _ hm H.out.bel) HT1.out (by unfold maxLen; omega) (by omega) ?_
                  intro g1 cap1 WX25 H'
                  rw [Nat.zero_add, List.nil_append] at H'
                  rw [Nat.zero_add]
                  replace H := Lib.hid H'
                  clear H'
                  replace HSE := Lib.hid (HSS.out _ H.out.bel)
                  refine hK.out _ _ HSE.out (fun hHeld => ?_)
                  clear hK; try clear KK
                  try simp only [Act.put, List.setIfInBounds_toArray, List.set_cons_zero, List.set_cons_succ]
                  refine wpAnyH_ready (rs := [19]) (by kernel_rfl) (by simp) ?_
                  refine AllReadyH.cons (o := ⟨some 129, _, _, _, _, _⟩) rfl (fun KK hK => ?_) AllReadyH.nil
                  refine GA.app H.out (by rfl) _ _ _ (by rfl) i0 (.agg rowZ) 56 Try.underlying27 hi0 hz0 hz1 hz2 (by rfl) (by decide) (by rfl) (by rfl) (cells_size _) (one_row _) (by unfold maxLen; omega) (by omega) ?_
                  intro g2 cap2 WX26 H'
                  replace H := Lib.hid H'
                  clear H'
                  replace HSE := Lib.hid (HSS.out _ H.out.bel)
                  refine hK.out _ _ HSE.out (fun hHeld => ?_)
                  clear hK; try clear KK
                  try simp only [Act.put, List.setIfInBounds_toArray, List.set_cons_zero, List.set_cons_succ]
                  refine wpAnyH_take (i := 20) (oi := ⟨some 130, _, _, _, _, _⟩) (v := ?_) rfl (by kernel_rfl) (by kernel_rfl) (by kernel_rfl) (fun _ _ _ h => h) (Or.inl ⟨by rfl, ?_⟩) (by assumption) ?_
                  rotate_left
                  · (intro w hSw; (try dsimp only at hSw); go_simp; (try with_reducible rfl))
                  simp only [Act.put, List.setIfInBounds_toArray, List.set_cons_zero, List.set_cons_succ]
                  refine wpAnyH_take (i := 21) (oi := ⟨some 131, _, _, _, _, _⟩) (v := ?_) rfl (by kernel_rfl) (by kernel_rfl) (by kernel_rfl) (fun _ _ _ h => h) (Or.inl ⟨by rfl, ?_⟩) (by assumption) ?_
                  rotate_left
                  · (intro w hSw; (try dsimp only at hSw); go_simp; (try with_reducible rfl))
                  simp only [Act.put, List.setIfInBounds_toArray, List.set_cons_zero, List.set_cons_succ]
                  refine wpAnyH_ready (rs := [22]) (by kernel_rfl) (by simp) ?_
                  refine AllReadyH.cons (o := ⟨none, _, _, _, _, _⟩) rfl (fun KK hK => ?_) AllReadyH.nil
                  have cL := HLD.out _ H.out.bel
                  have fL := HFZ.out _ H.out.bel
                  go_simp
                  clear cL fL
                  have HFIN := Lib.hid (HRS.out.push1 (l' := L1 ++ [ackR m y]) HN3.out (HN0.out ▸ H.out) (by simp) (rows_snoc L1 (ackR m y)))
                  have HCH := Lib.hid (chg_push' (x := .slice (some ⟨g2, 0, none⟩) (L1.length + 1) cap2) HBE.out HN3.out (HN0.out ▸ H.out) 0)
                  change KK _ (WX26.setCell ⟨R, 0, none⟩ (.slice (some ⟨g2, 0, none⟩) (L1.length + 1) cap2))
                  replace HSE := Lib.hid (HST.out _ (.slice (some ⟨g2, 0, none⟩) (L1.length + 1) cap2) (HSS.out _ H.out.bel))
                  generalize WX26.setCell ⟨R, 0, none⟩ (.slice (some ⟨g2, 0, none⟩) (L1.length + 1) cap2) = WX27 at HFIN HCH HSE ⊢
                  refine hK.out _ _ HSE.out (fun hHeld => ?_)
                  clear hK; try clear KK
                  refine wpAnyH_done (by kernel_rfl) ?_ _
                  go_wp2_with fail
                  go_ret
                  exact ⟨⟨_, rfl⟩, ⟨_, _, by rw [HT0.out]; exact HFIN.out⟩, HCH.out⟩
              · go_simp
                change KK _ (w3.alloc (.cells (DRow.cells (ackR m y)) 57))
                replace H := Lib.hid (H.out.new (DRow.cells (ackR m y)))
                generalize w3.alloc (.cells (DRow.cells (ackR m y)) 57) = WX28 at H ⊢
                generalize w3.heap.size = nb1 at H ⊢
                replace HSE := Lib.hid (HSS.out _ H.out.bel)
                refine hK.out _ _ HSE.out (fun hHeld => ?_)
                clear hK; try clear KK
                try simp only [Act.put, List.setIfInBounds_toArray, List.set_cons_zero, List.set_cons_succ]
                refine wpAnyH_ready (rs := [1, 5]) (by kernel_rfl) (by simp) ?_
                refine AllReadyH.cons (o := ⟨some 111, _, _, _, _, _⟩) rfl (fun KK hK => ?_) (AllReadyH.cons (o := ⟨some 115, _, _, _, _, _⟩) rfl (fun KK hK => ?_) (AllReadyH.nil))
                · go_simp
                  change KK _ (WX28.alloc (.cells #[] 57))
                  replace H := Lib.hid H.out.empty
                  generalize WX28.alloc (.cells #[] 57) = WX29 at H ⊢
                  generalize WX28.heap.size = e1 at H ⊢
                  replace HSE := Lib.hid (HSS.out _ H.out.bel)
                  refine hK.out _ _ HSE.out (fun hHeld => ?_)
                  clear hK; try clear KK
                  try simp only [Act.put, List.setIfInBounds_toArray, List.set_cons_zero, List.set_cons_succ]
                  refine wpAnyH_ready (rs := [5]) (by kernel_rfl) (by simp) ?_
                  refine AllReadyH.cons (o := ⟨some 115, _, _, _, _, _⟩) rfl (fun KK hK => ?_) AllReadyH.nil
                  have cL := HLD.out _ H.out.bel
                  go_simp
                  clear cL
                  refine hK.out _ _ HSE.out (fun hHeld => ?_)
                  clear hK; try clear KK
                  try simp only [Act.put, List.setIfInBounds_toArray, List.set_cons_zero, List.set_cons_succ]
                  refine wpAnyH_ready (rs := [6]) (by kernel_rfl) (by simp) ?_
                  refine AllReadyH.cons (o := ⟨some 116, _, _, _, _, _⟩) rfl (fun KK hK => ?_) AllReadyH.nil
                  refine GA.src H.out (by rfl) _ _ _ (by rfl) i0 (.agg rowZ) 56 Try.underlying27 hi0 hz0 hz1 hz2 (by rfl) (by decide) (by rfl) _ _ _ _ (by rfl) HTL.out (fun hm => HTS.out _ hm H.out.bel) HT1.out (by unfold maxLen; omega) (by omega) ?_
                  intro g1 cap1 WX30 H'
                  rw [Nat.zero_add, List.nil_append] at H'
                  rw [Nat.zero_add]
                  replace H := Lib.hid H'
                  clear H'
                  replace HSE := Lib.hid (HSS.out _ H.out.bel)
                  refine hK.out _ _ HSE.out (fun hHeld => ?_)
                  clear hK; try clear KK
                  try simp only [Act.put, List.setIfInBounds_toArray, List.set_cons_zero, List.set_cons_succ]
                  refine wpAnyH_ready (rs := [19]) (by kernel_rfl) (by simp) ?_
                  refine AllReadyH.cons (o := ⟨some 129, _, _, _, _, _⟩) rfl (fun KK hK => ?_) AllReadyH.nil
                  refine GA.app H.out (by rfl) _ _ _ (by rfl) i0 (.agg rowZ) 56 Try.underlying27 hi0 hz0 hz1 hz2 (by rfl) (by decide) (by rfl) (by rfl) (cells_size _) (one_row _) (by unfold maxLen; omega) (by omega) ?_
                  intro g2 cap2 WX31 H'
                  replace H := Lib.hid H'
                  clear H'
                  replace HSE := Lib.hid (HSS.out _ H.out.bel)
                  refine hK.out _ _ HSE.out (fun hHeld => ?_)
                  clear hK; try clear KK
                  try simp only [Act.put, List.setIfInBounds_toArray, List.set_cons_zero, List.set_cons_succ]
                  refine wpAnyH_take (i := 20) (oi := ⟨some 130, _, _, _, _, _⟩) (v := ?_) rfl (by kernel_rfl) (by kernel_rfl) (by kernel_rfl) (fun _ _ _ h => h) (Or.inl ⟨by rfl, ?_⟩) (by assumption) ?_
                  rotate_left
                  · (intro w hSw; (try dsimp only at hSw); go_simp; (try with_reducible rfl))
                  simp only [Act.put, List.setIfInBounds_toArray, List.set_cons_zero, List.set_cons_succ]
                  refine wpAnyH_take (i := 21) (oi := ⟨some 131, _, _, _, _, _⟩) (v := ?_) rfl (by kernel_rfl) (by kernel_rfl) (by kernel_rfl) (fun _ _ _ h => h) (Or.inl ⟨by rfl, ?_⟩) (by assumption) ?_
                  rotate_left
                  · (intro w hSw; (try dsimp only at hSw); go_simp; (try with_reducible rfl))
                  simp only [Act.put, List.setIfInBounds_toArray, List.set_cons_zero, List.set_cons_succ]
                  refine wpAnyH_ready (rs := [22]) (by kernel_rfl) (by simp) ?_
                  refine AllReadyH.cons (o := ⟨none, _, _, _, _, _⟩) rfl (fun KK hK => ?_) AllReadyH.nil
                  have cL := HLD.out _ H.out.bel
                  have fL := HFZ.out _ H.out.bel
                  go_simp
                  clear cL fL
                  have HFIN := Lib.hid (HRS.out.push1 (l' := L1 ++ [ackR m y]) HN3.out (HN0.out ▸ H.out) (by simp) (rows_snoc L1 (ackR m y)))
                  have HCH := Lib.hid (chg_push' (x := .slice (some ⟨g2, 0, none⟩) (L1.length + 1) cap2) HBE.out HN3.out (HN0.out ▸ H.out) 0)
                  change KK _ (WX31.setCell ⟨R, 0, none⟩ (.slice (some ⟨g2, 0, none⟩) (L1.length + 1) cap2))
                  replace HSE := Lib.hid (HST.out _ (.slice (some ⟨g2, 0, none⟩) (L1.length + 1) cap2) (HSS.out _ H.out.bel))
                  generalize WX31.setCell ⟨R, 0, none⟩ (.slice (some ⟨g2, 0, none⟩) (L1.length + 1) cap2) = WX32 at HFIN HCH HSE ⊢
                  refine hK.out _ _ HSE.out (fun hHeld => ?_)
                  clear hK; try clear KK
                  refine wpAnyH_done (by kernel_rfl) ?_ _
                  go_wp2_with fail
                  go_ret
                  exact ⟨⟨_, rfl⟩, ⟨_, _, by rw [HT0.out]; exact HFIN.out⟩, HCH.out⟩
                · have cL := HLD.out _ H.out.bel
                  go_simp
                  clear cL
                  refine hK.out _ _ HSE.out (fun hHeld => ?_)
                  clear hK; try clear KK
                  try simp only [Act.put, List.setIfInBounds_toArray, List.set_cons_zero, List.set_cons_succ]
                  refine wpAnyH_ready (rs := [1]) (by kernel_rfl) (by simp) ?_
                  refine AllReadyH.cons (o := ⟨some 111, _, _, _, _, _⟩) rfl (fun KK hK => ?_) AllReadyH.nil
                  go_simp
                  change KK _ (WX28.alloc (.cells #[] 57))
                  replace H := Lib.hid H.out.empty
                  generalize WX28.alloc (.cells #[] 57) = WX33 at H ⊢
                  generalize WX28.heap.size = e1 at H ⊢
                  replace HSE := Lib.hid (HSS.out _ H.out.bel)
                  refine hK.out _ _ HSE.out (fun hHeld => ?_)
                  clear hK; try clear KK
                  try simp only [Act.put, List.setIfInBounds_toArray, List.set_cons_zero, List.set_cons_succ]
                  refine wpAnyH_ready (rs := [6]) (by kernel_rfl) (by simp) ?_
                  refine AllReadyH.cons (o := ⟨some 116, _, _, _, _, _⟩) rfl (fun KK hK => ?_) AllReadyH.nil
                  refine GA.src H.out (by rfl) _ _ _ (by rfl) i0 (.agg rowZ) 56 Try.underlying27 hi0 hz0 hz1 hz2 (by rfl) (by decide) (by rfl) _ _ _ _ (by rfl) HTL.out (fun hm => HTS.out _ hm H.out.bel) HT1.out (by unfold maxLen; omega) (by omega) ?_
                  intro g1 cap1 WX34 H'
                  rw [Nat.zero_add, List.nil_append] at H'
                  rw [Nat.zero_add]
                  replace H := Lib.hid H'
                  clear H'
                  replace HSE := Lib.hid (HSS.out _ H.out.bel)
                  refine hK.out _ _ HSE.out (fun hHeld => ?_)
                  clear hK; try clear KK
                  try simp only [Act.put, List.setIfInBounds_toArray, List.set_cons_zero, List.set_cons_succ]
                  refine wpAnyH_ready (rs := [19]) (by kernel_rfl) (by simp) ?_
                  refine AllReadyH.cons (o := ⟨some 129, _, _, _, _, _⟩) rfl (fun KK hK => ?_) AllReadyH.nil
                  refine GA.app H.out (by rfl) _ _ _ (by rfl) i0 (.agg rowZ) 56 Try.underlying27 hi0 hz0 hz1 hz2 (by rfl) (by decide) (by rfl) (by rfl) (cells_size _) (one_row _) (by unfold maxLen; omega) (by omega) ?_
                  intro g2 cap2 WX35 H'
                  replace H := Lib.hid H'
                  clear H'
                  replace HSE := Lib.hid (HSS.out _ H.out.bel)
                  refine hK.out _ _ HSE.out (fun hHeld => ?_)
                  clear hK; try clear KK
                  try simp only [Act.put, List.setIfInBounds_toArray, List.set_cons_zero, List.set_cons_succ]
                  refine wpAnyH_take (i := 20) (oi := ⟨some 130, _, _, _, _, _⟩) (v := ?_) rfl (by kernel_rfl) (by kernel_rfl) (by kernel_rfl) (fun _ _ _ h => h) (Or.inl ⟨by rfl, ?_⟩) (by assumption) ?_
                  rotate_left
                  · (intro w hSw; (try dsimp only at hSw); go_simp; (try with_reducible rfl))
                  simp only [Act.put, List.setIfInBounds_toArray, List.set_cons_zero, List.set_cons_succ]
                  refine wpAnyH_take (i := 21) (oi := ⟨some 131, _, _, _, _, _⟩) (v := ?_) rfl (by kernel_rfl) (by kernel_rfl) (by kernel_rfl) (fun _ _ _ h => h) (Or.inl ⟨by rfl, ?_⟩) (by assumption) ?_
                  rotate_left
                  · (intro w hSw; (try dsimp only at hSw); go_simp; (try with_reducible rfl))
                  simp only [Act.put, List.setIfInBounds_toArray, List.set_cons_zero, List.set_cons_succ]
                  refine wpAnyH_ready (rs := [22]) (by kernel_rfl) (by simp) ?_
                  refine AllReadyH.cons (o := ⟨none, _, _, _, _, _⟩) rfl (fun KK hK => ?_) AllReadyH.nil
                  have cL := HLD.out _ H.out.bel
                  have fL := HFZ.out _ H.out.bel
                  go_simp
                  clear cL fL
                  have HFIN := Lib.hid (HRS.out.push1 (l' := L1 ++ [ackR m y]) HN3.out (HN0.out ▸ H.out) (by simp) (rows_snoc L1 (ackR m y)))
                  have HCH := Lib.hid (chg_push' (x := .slice (some ⟨g2, 0, none⟩) (L1.length + 1) cap2) HBE.out HN3.out (HN0.out ▸ H.out) 0)
                  change KK _ (WX35.setCell ⟨R, 0, none⟩ (.slice (some ⟨g2, 0, none⟩) (L1.length + 1) cap2))
                  replace HSE := Lib.hid (HST.out _ (.slice (some ⟨g2, 0, none⟩) (L1.length + 1) cap2) (HSS.out _ H.out.bel))
                  generalize WX35.setCell ⟨R, 0, none⟩ (.slice (some ⟨g2, 0, none⟩) (L1.length + 1) cap2) = WX36 at HFIN HCH HSE ⊢
                  refine hK.out _ _ HSE.out (fun hHeld => ?_)
                  clear hK; try clear KK
                  refine wpAnyH_done (by kernel_rfl) ?_ _
                  go_wp2_with fail
                  go_ret
                  exact ⟨⟨_, rfl⟩, ⟨_, _, by rw [HT0.out]; exact HFIN.out⟩, HCH.out⟩
      · have b2 : (owesA ⟨x, y2, z, t⟩ != 0) = true := by simpa using how
        clear how
        rw [b1, b2] at HBU
        have HT0 := Lib.hid (show ackD l es m = (l, es) by rw [HAD.out, HBU.out]; rfl)
        go_wp2_with fail
        go_ret
        exact ⟨⟨_, rfl⟩, ⟨_, _, by rw [HT0.out]; exact HS2.out⟩, Chg.of HB2.out⟩
    · have b1 : (t != 0) = true := by simpa using ht
      clear ht
      rw [b1] at HBU
      have HT0 := Lib.hid (show ackD l es m = (l, es) by rw [HAD.out, HBU.out]; rfl)
      go_wp2_with fail
      go_ret
      exact ⟨⟨_, rfl⟩, ⟨_, _, by rw [HT0.out]; exact HS0.out⟩, Chg.of (HB0.out.mono HNN.out)⟩
  · rw [hfd] at HFI
    refine (HFI.out _ HS0.out).mono ?_
    rintro e w1 ⟨rfl, rfl⟩
    go_wp2_with fail
    refine (HEA.out _ HS0.out).mono ?_
    rintro e w1 ⟨rfl, rfl⟩
    by_cases hlt : m.wth < y + m.qty
    · have HT0 := Lib.hid (show ackD l es m = (l, es) by rw [HAD.out, hac]; simp [hlt])
      clear hfd hac
      go_wp2_with fail
      go_ret
      exact ⟨⟨_, rfl⟩, ⟨_, _, by rw [HT0.out]; exact HS0.out⟩, Chg.of (HB0.out.mono HNN.out)⟩
    · have HT0 := Lib.hid (show ackD l es m = (l ++ [ackR m y], keepE (m.sym, m.id) es) by
        rw [HAD.out, hac]
        have e : oldD (m.sym, m.id) l = l := by
          unfold oldD
          rw [dif_neg]
          intro hlt'
          unfold findD at hfd
          rw [if_pos hlt'] at hfd
          omega
        rw [e]; simp [hlt])
      clear hfd hac
      obtain ⟨L1, hL1⟩ : ∃ L1, L1 = l := ⟨_, rfl⟩
      have HS4 := Lib.hid (show RS N W0 R L1 es v u by rw [hL1]; exact HS0.out)
      have HM4 := Lib.hid HMB.out
      have HB4 := Lib.hid (HB0.out.mono HNN.out)
      have hl1 : L1.length ≤ 1000 := by rw [hL1]; exact hls
      replace HT0 := Lib.hid (show ackD l es m = (L1 ++ [ackR m y], keepE (m.sym, m.id) es) by rw [hL1]; exact HT0.out)
      clear hL1
      go_upto_region 9 with fail
      obtain ⟨w4, hw4⟩ : ∃ w4, w4 = W0 := ⟨_, rfl⟩
      subst hw4
      clear c1 c4 c5 c7
      have c1 : w4.cell? ⟨w.heap.size, 1, none⟩ = some (.int .i64 m.sym) := HM4.out.cell 1 rfl
      go_wp2_with fail
      go_loopw [7, 8] (fun vv kk wr => ∃ k : Nat, k ≤ es.length ∧ kk = .int .i64 k ∧ wr.ownsRow w4.heap.size 57 7 vv (keepE (m.sym, m.id) (es.take k)).length (rowsD (keepE (m.sym, m.id) (es.take k))) ∧ Below w4.heap.size w4 wr) (fun _ i _ => es.length - (intOf i).toNat)
      case atStart => exact ⟨0, by omega, rfl, by simpa [keepE] using World.ownsRow_nil _ _ _ _, Below.refl _ _⟩
      case round =>
        clear c1
        obtain ⟨k, hk, rfl, hrw, hbw⟩ := hrel
        obtain ⟨ka, kc, rfl⟩ := row_slice hrw
        have HRW := Lib.hid hrw
        have HBW := Lib.hid hbw
        have HSR := Lib.hid (HS4.out.below hbw)
        have HMR := Lib.hid (HM4.out.below hbw HM4.out.lt)
        clear hrw hbw
        obtain ⟨ua, uc, hu, hu1, hu2, hat⟩ := owned_at DRow.cells 7 cells_size HSR.out.ear
        subst hu
        unfold maxLen at hu2
        have cR : wr.cell? ⟨R, 1, none⟩ = some (.slice ua es.length uc) := HSR.out.box.cell 1 rfl
        have c1 : wr.cell? ⟨w.heap.size, 1, none⟩ = some (.int .i64 m.sym) := HMR.out.cell 1 rfl
        have c4 : wr.cell? ⟨w.heap.size, 4, none⟩ = some (.int .i64 m.id) := HMR.out.cell 4 rfl
        by_cases hlt : k < es.length
        · obtain ⟨g, rfl, -, -, hg⟩ := hat k hlt
          have HT := Lib.hid (List.take_succ_eq_append_getElem hlt)
          clear hat
          generalize es[k] = x at hg HT
          obtain ⟨x1, x2, ⟨y1, y2, y3, y4⟩, xo⟩ := x
          have d0 : wr.cell? ⟨g, k * 7, none⟩ = some (.int .i64 x1) := hg 0 _ rfl
          have d1 : wr.cell? ⟨g, k * 7 + 1, none⟩ = some (.int .i64 x2) := hg 1 _ rfl
          have HROW := Lib.hid hg
          have HKB := Lib.hid (show keyB (m.sym, m.id) ⟨x1, x2, ⟨y1, y2, y3, y4⟩, xo⟩ = (x1 == m.sym && x2 == m.id) from rfl)
          obtain ⟨i0, hi0, hz0, hz1, hz2⟩ := row_parts
          clear hg
          have g0 : (0 : Int) ≤ (k : Int) := by omega
          have g1 : (k : Int) < (es.length : Int) := by omega
          by_cases h1 : x1 = m.sym
          · have b1 : (x1 != m.sym) = false := by simp [h1]
            have b1' : (x1 == m.sym) = true := by simpa using h1
            clear h1
            by_cases h2 : x2 = m.id
            · have b2 : (x2 != m.id) = false := by simp [h2]
              have b2' : (x2 == m.id) = true := by simpa using h2
              clear h2
              go_wp2_with fail
              go_quiet (fail)
              have HR2 := Lib.hid (grown_stay HRW.out ((Below.refl _ _).drewN nq))
              have HB2 := Lib.hid (HBW.out.drewN nq)
              have HROW := Lib.hid (show (wr.drewN nq).rangeAt g (k * 7) (DRow.cells ⟨x1, x2, ⟨y1, y2, y3, y4⟩, xo⟩).toList from HROW.out)
              have cR : (wr.drewN nq).cell? ⟨R, 1, none⟩ = some (.slice (some ⟨g, 0, none⟩) es.length uc) := cR
              clear d0 d1
              generalize wr.drewN nq = w2 at HR2 HB2 HROW cR ⊢
              go_wp2_with fail
              go_roundw
              case rel => exact ⟨k + 1, by omega, by go_num, by rw [HT.out, keep_no (by rw [HKB.out, b1', b2']; rfl)]; exact HR2.out, HB2.out⟩
              case measure => simp [intOf]; omega
            · have b2 : (x2 != m.id) = true := by simpa using h2
              have b2' : (x2 == m.id) = false := by simpa using h2
              clear h2
              go_wp2_with fail
              go_quiet (fail)
              have HR2 := Lib.hid (grown_stay HRW.out ((Below.refl _ _).drewN nq))
              have HB2 := Lib.hid (HBW.out.drewN nq)
              have HROW := Lib.hid (show (wr.drewN nq).rangeAt g (k * 7) (DRow.cells ⟨x1, x2, ⟨y1, y2, y3, y4⟩, xo⟩).toList from HROW.out)
              have cR : (wr.drewN nq).cell? ⟨R, 1, none⟩ = some (.slice (some ⟨g, 0, none⟩) es.length uc) := cR
              clear d0 d1
              generalize wr.drewN nq = w2 at HR2 HB2 HROW cR ⊢
              have hrow : w2.rangeAt g (k * 7) (DRow.cells ⟨x1, x2, ⟨y1, y2, y3, y4⟩, xo⟩).toList := HROW.out
              have HR3 := Lib.hid (HR2.out.alloc (.cells (DRow.cells ⟨x1, x2, ⟨y1, y2, y3, y4⟩, xo⟩) 57))
              have HB3 := Lib.hid (HB2.out.alloc HB2.out.size (.cells (DRow.cells ⟨x1, x2, ⟨y1, y2, y3, y4⟩, xo⟩) 57))
              have HNS := Lib.hid (World.news_of_block (Blk.new w2 (DRow.cells ⟨x1, x2, ⟨y1, y2, y3, y4⟩, xo⟩) 57 w2.heap.size rfl))
              have HKL := Lib.hid (show (keepE (m.sym, m.id) (es.take k)).length ≤ 1000 from Nat.le_trans (keep_len _ _) (by rw [List.length_take]; omega))
              dsimp only [DRow.cells] at hrow HR3 HB3 HNS
              go_wp2_with (first | (refine wpList_load_mid (by rfl) 57 _ (by rfl) g (k * 7) (by rfl) _ _ hrow Try.underlying57 rfl (by kernel_rfl) ?_) | (at_builtin; refine wpList_append_lies _ (by rfl) _ _ _ (by rfl) w4.heap.size 57 i0 (.agg rowZ) 7 56 Try.underlying27 hi0 hz0 hz1 hz2 (by rfl) (by decide) _ (keepE (m.sym, m.id) (es.take k)).length (rowsD (keepE (m.sym, m.id) (es.take k))) (by rfl) HR3.out ⟨w2.heap.size, 0, none⟩ 1 1 _ (by rfl) (by rfl) HNS.out (one_row ⟨x1, x2, ⟨y1, y2, y3, y4⟩, xo⟩) (by decide) (by unfold maxLen; have := HKL.out; omega) (by have := HKL.out; omega) HB3.out.size (w2.heap.size + 1) (by simp) ?_; intro g2 cap2 w5 hown5 hgrow5 hat5 hlt5))
              have HB5 := Lib.hid (HB3.out.grown hgrow5 HB3.out.size (fun k e => (HR3.out.lt k e).1))
              have HR5 := Lib.hid hown5
              clear hown5 hgrow5 hat5 hlt5
              go_roundw
              case rel => exact ⟨k + 1, by omega, by go_num, by rw [HT.out, keep_yes (by rw [HKB.out, b1', b2']; rfl), List.length_append, ← rows_snoc]; exact HR5.out, HB5.out⟩
              case measure => simp [intOf]; omega
          · have b1 : (x1 != m.sym) = true := by simpa using h1
            have b1' : (x1 == m.sym) = false := by simpa using h1
            clear h1
            go_wp2_with fail
            go_quiet (fail)
            have HR2 := Lib.hid (grown_stay HRW.out ((Below.refl _ _).drewN nq))
            have HB2 := Lib.hid (HBW.out.drewN nq)
            have HROW := Lib.hid (show (wr.drewN nq).rangeAt g (k * 7) (DRow.cells ⟨x1, x2, ⟨y1, y2, y3, y4⟩, xo⟩).toList from HROW.out)
            have cR : (wr.drewN nq).cell? ⟨R, 1, none⟩ = some (.slice (some ⟨g, 0, none⟩) es.length uc) := cR
            clear d0 d1
            generalize wr.drewN nq = w2 at HR2 HB2 HROW cR ⊢
            have hrow : w2.rangeAt g (k * 7) (DRow.cells ⟨x1, x2, ⟨y1, y2, y3, y4⟩, xo⟩).toList := HROW.out
            have HR3 := Lib.hid (HR2.out.alloc (.cells (DRow.cells ⟨x1, x2, ⟨y1, y2, y3, y4⟩, xo⟩) 57))
            have HB3 := Lib.hid (HB2.out.alloc HB2.out.size (.cells (DRow.cells ⟨x1, x2, ⟨y1, y2, y3, y4⟩, xo⟩) 57))
            have HNS := Lib.hid (World.news_of_block (Blk.new w2 (DRow.cells ⟨x1, x2, ⟨y1, y2, y3, y4⟩, xo⟩) 57 w2.heap.size rfl))
            have HKL := Lib.hid (show (keepE (m.sym, m.id) (es.take k)).length ≤ 1000 from Nat.le_trans (keep_len _ _) (by rw [List.length_take]; omega))
            dsimp only [DRow.cells] at hrow HR3 HB3 HNS
            go_wp2_with (first | (refine wpList_load_mid (by rfl) 57 _ (by rfl) g (k * 7) (by rfl) _ _ hrow Try.underlying57 rfl (by kernel_rfl) ?_) | (at_builtin; refine wpList_append_lies _ (by rfl) _ _ _ (by rfl) w4.heap.size 57 i0 (.agg rowZ) 7 56 Try.underlying27 hi0 hz0 hz1 hz2 (by rfl) (by decide) _ (keepE (m.sym, m.id) (es.take k)).length (rowsD (keepE (m.sym, m.id) (es.take k))) (by rfl) HR3.out ⟨w2.heap.size, 0, none⟩ 1 1 _ (by rfl) (by rfl) HNS.out (one_row ⟨x1, x2, ⟨y1, y2, y3, y4⟩, xo⟩) (by decide) (by unfold maxLen; have := HKL.out; omega) (by have := HKL.out; omega) HB3.out.size (w2.heap.size + 1) (by simp) ?_; intro g2 cap2 w5 hown5 hgrow5 hat5 hlt5))
            have HB5 := Lib.hid (HB3.out.grown hgrow5 HB3.out.size (fun k e => (HR3.out.lt k e).1))
            have HR5 := Lib.hid hown5
            clear hown5 hgrow5 hat5 hlt5
            go_roundw
            case rel => exact ⟨k + 1, by omega, by go_num, by rw [HT.out, keep_yes (by rw [HKB.out, b1']; rfl), List.length_append, ← rows_snoc]; exact HR5.out, HB5.out⟩
            case measure => simp [intOf]; omega
        · have hke : k = es.length := by omega
          have hE : keepE (m.sym, m.id) (es.take k) = keepE (m.sym, m.id) es := by rw [hke, List.take_length]
          rw [hE] at HRW ⊢
          clear hke hE
          generalize keepE (m.sym, m.id) es = E5 at HRW HT0 ⊢
          have f1 : wr.frozen? ⟨R, 1, none⟩ = false := HSR.out.box.free 1
          clear hat
          have HMN := Lib.hid (show w.heap.size < w4.heap.size from HM4.out.lt)
          have HN4 := Lib.hid (show N ≤ w4.heap.size by have := HMN.out; have := HNN.out; omega)
          have HS5 := Lib.hid (HS4.out.early (es' := E5) HN4.out HBW.out HRW.out rfl rfl)
          have HM5 := Lib.hid (HMR.out.apart ⟨R, 1, none⟩ (.slice ka E5.length kc) (by show R ≠ w.heap.size; omega))
          have HB5 := Lib.hid (show Chg N R w (wr.setCell ⟨R, 1, none⟩ (.slice ka E5.length kc)) from (Chg.of (HB4.out.trans (HBW.out.mono HN4.out))).setCell _ _ (.inl rfl))
          go_upto_region 16 with fail
          change Code.wp _ _ _ _ (wr.setCell ⟨R, 1, none⟩ (.slice ka E5.length kc))
          generalize wr.setCell ⟨R, 1, none⟩ (.slice ka E5.length kc) = w5 at HS5 HM5 HB5 ⊢
          clear HSR HMR HRW HBW HS4 HM4 HB4 cR c1 c4 f1
          obtain ⟨i0, hi0, hz0, hz1, hz2⟩ := row_parts
          obtain ⟨va, vc, hv, hv1, hv2, -⟩ := owned_at DRow.cells 7 cells_size HS5.out.row
          subst hv
          unfold maxLen at hv2
          refine wp_region_held_drew (S := (fun w' => w'.cell? ⟨w.heap.size, 1, none⟩ = some (.int .i64 m.sym) ∧ w'.cell? ⟨w.heap.size, 4, none⟩ = some (.int .i64 m.id) ∧ w'.cell? ⟨w.heap.size, 5, none⟩ = some (.int .i64 m.wth) ∧ w'.cell? ⟨w.heap.size, 7, none⟩ = some (.int .i64 m.qty))) (by kernel_rfl) ⟨HM5.out.cell 1 rfl, HM5.out.cell 4 rfl, HM5.out.cell 5 rfl, HM5.out.cell 7 rfl⟩ (fun hHeld => ?_)
          have HRS := Lib.hid HS5.out.drew
          have HBE := Lib.hid HB5.out.drew
          have HMW := Lib.hid HM5.out.drew.lt
          generalize w5.drew = w3 at HRS HBE HMW hHeld ⊢
          obtain ⟨n0, hn0⟩ : ∃ n, n = w3.heap.size := ⟨_, rfl⟩
          have HN0 := Lib.hid hn0
          have HN3 := Lib.hid (show N ≤ w3.heap.size from Nat.le_trans HNN.out HBE.out.size)
          have HLD := Lib.hid (show ∀ W, Below n0 w3 W → W.cell? ⟨R, 0, none⟩ = some (.slice va L1.length vc) from fun W hb => (HRS.out.below (hn0 ▸ hb)).box.cell 0 rfl)
          have HFZ := Lib.hid (show ∀ W, Below n0 w3 W → W.frozen? ⟨R, 0, none⟩ = false from fun W hb => (HRS.out.below (hn0 ▸ hb)).box.free 0)
          have HSS := Lib.hid (show ∀ W, Below n0 w3 W → W.cell? ⟨w.heap.size, 1, none⟩ = some (.int .i64 m.sym) ∧ W.cell? ⟨w.heap.size, 4, none⟩ = some (.int .i64 m.id) ∧ W.cell? ⟨w.heap.size, 5, none⟩ = some (.int .i64 m.wth) ∧ W.cell? ⟨w.heap.size, 7, none⟩ = some (.int .i64 m.qty) from fun W hb => by
            have hlt : w.heap.size < n0 := by rw [hn0]; exact HMW.out
            rw [hb.cell (p := ⟨w.heap.size, _, none⟩) hlt, hb.cell (p := ⟨w.heap.size, _, none⟩) hlt, hb.cell (p := ⟨w.heap.size, _, none⟩) hlt, hb.cell (p := ⟨w.heap.size, _, none⟩) hlt]; exact hHeld)
          have HST := Lib.hid (show ∀ (W : World) (x : Value), (W.cell? ⟨w.heap.size, 1, none⟩ = some (.int .i64 m.sym) ∧ W.cell? ⟨w.heap.size, 4, none⟩ = some (.int .i64 m.id) ∧ W.cell? ⟨w.heap.size, 5, none⟩ = some (.int .i64 m.wth) ∧ W.cell? ⟨w.heap.size, 7, none⟩ = some (.int .i64 m.qty)) → (W.setCell ⟨R, 0, none⟩ x).cell? ⟨w.heap.size, 1, none⟩ = some (.int .i64 m.sym) ∧ (W.setCell ⟨R, 0, none⟩ x).cell? ⟨w.heap.size, 4, none⟩ = some (.int .i64 m.id) ∧ (W.setCell ⟨R, 0, none⟩ x).cell? ⟨w.heap.size, 5, none⟩ = some (.int .i64 m.wth) ∧ (W.setCell ⟨R, 0, none⟩ x).cell? ⟨w.heap.size, 7, none⟩ = some (.int .i64 m.qty) from fun W x hh => by
            rw [World.cell?_setCell_far _ _ _ _ (by show R ≠ w.heap.size; omega), World.cell?_setCell_far _ _ _ _ (by show R ≠ w.heap.size; omega), World.cell?_setCell_far _ _ _ _ (by show R ≠ w.heap.size; omega), World.cell?_setCell_far _ _ _ _ (by show R ≠ w.heap.size; omega)]; exact hh)
          have HTL := Lib.hid (rows_len L1)
          have HT1 := Lib.hid (one_rows L1)
          have HTS := Lib.hid (show ∀ W, 0 < L1.length → Below n0 w3 W → ∃ ad : Addr, va = some ad ∧ ∀ j x, (rowsD L1)[j]? = some x → W.cell? (ad.add j) = some x from fun W hp hb => by
            obtain ⟨g, c, hv, -, -⟩ := World.ownsRow.form HRS.out.row hp
            injection hv with hv
            subst hv
            exact ⟨_, rfl, (HRS.out.below (hn0 ▸ hb)).row.cells rfl⟩)
          have H := Lib.hid (show GA n0 57 7 w3 w3 none none from GA.start (Below.refl _ _) (by rw [hn0]; exact Nat.le_refl _))
          have HSE := Lib.hid hHeld
          clear hn0 HS5 HM5 HB5 hv1 hv2
          refine wpAnyH_take (i := 0) (oi := ⟨some 110, _, _, _, _, _⟩) (v := ?_) rfl (by kernel_rfl) (by kernel_rfl) (by kernel_rfl) (fun _ _ _ h => h) (Or.inl ⟨by rfl, ?_⟩) (by assumption) ?_
          rotate_left
          · (intro w hSw; (try dsimp only at hSw); go_simp; (try with_reducible rfl))
          simp only [Act.put, List.setIfInBounds_toArray, List.set_cons_zero, List.set_cons_succ]
          refine wpAnyH_take (i := 2) (oi := ⟨some 112, _, _, _, _, _⟩) (v := ?_) rfl (by kernel_rfl) (by kernel_rfl) (by kernel_rfl) (fun _ _ _ h => h) (Or.inl ⟨by rfl, ?_⟩) (by assumption) ?_
          rotate_left
          · (intro w hSw; (try dsimp only at hSw); go_simp; (try with_reducible rfl))
          simp only [Act.put, List.setIfInBounds_toArray, List.set_cons_zero, List.set_cons_succ]
          refine wpAnyH_take (i := 3) (oi := ⟨some 113, _, _, _, _, _⟩) (v := ?_) rfl (by kernel_rfl) (by kernel_rfl) (by kernel_rfl) (fun _ _ _ h => h) (Or.inl ⟨by rfl, ?_⟩) (by assumption) ?_
          rotate_left
          · (intro w hSw; (try dsimp only at hSw); go_simp; (try with_reducible rfl))
          simp only [Act.put, List.setIfInBounds_toArray, List.set_cons_zero, List.set_cons_succ]
          refine wpAnyH_take (i := 4) (oi := ⟨some 114, _, _, _, _, _⟩) (v := ?_) rfl (by kernel_rfl) (by kernel_rfl) (by kernel_rfl) (fun _ _ _ h => h) (Or.inl ⟨by rfl, ?_⟩) (by assumption) ?_
          rotate_left
          · (intro w hSw; (try dsimp only at hSw); go_simp; (try with_reducible rfl))
          simp only [Act.put, List.setIfInBounds_toArray, List.set_cons_zero, List.set_cons_succ]
          refine wpAnyH_take (i := 7) (oi := ⟨some 117, _, _, _, _, _⟩) (v := ?_) rfl (by kernel_rfl) (by kernel_rfl) (by kernel_rfl) (fun _ _ _ h => h) (Or.inl ⟨by rfl, ?_⟩) (by assumption) ?_
          rotate_left
          · (intro w hSw; (try dsimp only at hSw); go_simp; (try with_reducible rfl))
          simp only [Act.put, List.setIfInBounds_toArray, List.set_cons_zero, List.set_cons_succ]
          refine wpAnyH_take (i := 8) (oi := ⟨some 118, _, _, _, _, _⟩) (v := ?_) rfl (by kernel_rfl) (by kernel_rfl) (by kernel_rfl) (fun _ _ _ h => h) (Or.inl ⟨by rfl, ?_⟩) (by assumption) ?_
          rotate_left
          · (intro w hSw; (try dsimp only at hSw); go_simp; (try with_reducible rfl))
          simp only [Act.put, List.setIfInBounds_toArray, List.set_cons_zero, List.set_cons_succ]
          refine wpAnyH_take (i := 9) (oi := ⟨some 119, _, _, _, _, _⟩) (v := ?_) rfl (by kernel_rfl) (by kernel_rfl) (by kernel_rfl) (fun _ _ _ h => h) (Or.inl ⟨by rfl, ?_⟩) (by assumption) ?_
          rotate_left
          · (intro w hSw; (try dsimp only at hSw); go_simp; (try with_reducible rfl))
          simp only [Act.put, List.setIfInBounds_toArray, List.set_cons_zero, List.set_cons_succ]
          refine wpAnyH_take (i := 10) (oi := ⟨some 120, _, _, _, _, _⟩) (v := ?_) rfl (by kernel_rfl) (by kernel_rfl) (by kernel_rfl) (fun _ _ _ h => h) (Or.inl ⟨by rfl, ?_⟩) (by assumption) ?_
          rotate_left
          · (intro w hSw; (try dsimp only at hSw); go_simp; (try with_reducible rfl))
          simp only [Act.put, List.setIfInBounds_toArray, List.set_cons_zero, List.set_cons_succ]
          refine wpAnyH_take (i := 11) (oi := ⟨some 121, _, _, _, _, _⟩) (v := ?_) rfl (by kernel_rfl) (by kernel_rfl) (by kernel_rfl) (fun _ _ _ h => h) (Or.inl ⟨by rfl, ?_⟩) (by assumption) ?_
          rotate_left
          · (intro w hSw; (try dsimp only at hSw); go_simp; (try with_reducible rfl))
          simp only [Act.put, List.setIfInBounds_toArray, List.set_cons_zero, List.set_cons_succ]
          refine wpAnyH_take (i := 12) (oi := ⟨some 122, _, _, _, _, _⟩) (v := ?_) rfl (by kernel_rfl) (by kernel_rfl) (by kernel_rfl) (fun _ _ _ h => h) (Or.inl ⟨by rfl, ?_⟩) (by assumption) ?_
          rotate_left
          · (intro w hSw; (try dsimp only at hSw); go_simp; (try with_reducible rfl))
          simp only [Act.put, List.setIfInBounds_toArray, List.set_cons_zero, List.set_cons_succ]
          refine wpAnyH_take (i := 13) (oi := ⟨some 123, _, _, _, _, _⟩) (v := ?_) rfl (by kernel_rfl) (by kernel_rfl) (by kernel_rfl) (fun _ _ _ h => h) (Or.inl ⟨by rfl, ?_⟩) (by assumption) ?_
          rotate_left
          · (intro w hSw; (try dsimp only at hSw); go_simp; (try with_reducible rfl))
          simp only [Act.put, List.setIfInBounds_toArray, List.set_cons_zero, List.set_cons_succ]
          refine wpAnyH_take (i := 14) (oi := ⟨some 124, _, _, _, _, _⟩) (v := ?_) rfl (by kernel_rfl) (by kernel_rfl) (by kernel_rfl) (fun _ _ _ h => h) (Or.inl ⟨by rfl, ?_⟩) (by assumption) ?_
          rotate_left
          · (intro w hSw; (try dsimp only at hSw); go_simp; (try with_reducible rfl))
          simp only [Act.put, List.setIfInBounds_toArray, List.set_cons_zero, List.set_cons_succ]
          refine wpAnyH_take (i := 15) (oi := ⟨some 125, _, _, _, _, _⟩) (v := ?_) rfl (by kernel_rfl) (by kernel_rfl) (by kernel_rfl) (fun _ _ _ h => h) (Or.inl ⟨by rfl, ?_⟩) (by assumption) ?_
          rotate_left
          · (intro w hSw; (try dsimp only at hSw); go_simp; (try with_reducible rfl))
          simp only [Act.put, List.setIfInBounds_toArray, List.set_cons_zero, List.set_cons_succ]
          refine wpAnyH_take (i := 16) (oi := ⟨some 126, _, _, _, _, _⟩) (v := ?_) rfl (by kernel_rfl) (by kernel_rfl) (by kernel_rfl) (fun _ _ _ h => h) (Or.inl ⟨by rfl, ?_⟩) (by assumption) ?_
          rotate_left
          · (intro w hSw; (try dsimp only at hSw); go_simp; (try with_reducible rfl))
          simp only [Act.put, List.setIfInBounds_toArray, List.set_cons_zero, List.set_cons_succ]
          refine wpAnyH_take (i := 17) (oi := ⟨some 127, _, _, _, _, _⟩) (v := ?_) rfl (by kernel_rfl) (by kernel_rfl) (by kernel_rfl) (fun _ _ _ h => h) (Or.inl ⟨by rfl, ?_⟩) (by assumption) ?_
          rotate_left
          · (intro w hSw; (try dsimp only at hSw); go_simp; (try with_reducible rfl))
          simp only [Act.put, List.setIfInBounds_toArray, List.set_cons_zero, List.set_cons_succ]
          refine wpAnyH_ready (rs := [1, 5, 18]) (by kernel_rfl) (by simp) ?_
          refine AllReadyH.cons (o := ⟨some 111, _, _, _, _, _⟩) rfl (fun KK hK => ?_) (AllReadyH.cons (o := ⟨some 115, _, _, _, _, _⟩) rfl (fun KK hK => ?_) (AllReadyH.cons (o := ⟨some 128, _, _, _, _, _⟩) rfl (fun KK hK => ?_) (AllReadyH.nil)))
          · go_simp
            change KK _ (w3.alloc (.cells #[] 57))
            replace H := Lib.hid H.out.empty
            generalize w3.alloc (.cells #[] 57) = WX1 at H ⊢
            generalize w3.heap.size = e1 at H ⊢
            replace HSE := Lib.hid (HSS.out _ H.out.bel)
            refine hK.out _ _ HSE.out (fun hHeld => ?_)
            clear hK; try clear KK
            try simp only [Act.put, List.setIfInBounds_toArray, List.set_cons_zero, List.set_cons_succ]
            refine wpAnyH_ready (rs := [5, 18]) (by kernel_rfl) (by simp) ?_
            refine AllReadyH.cons (o := ⟨some 115, _, _, _, _, _⟩) rfl (fun KK hK => ?_) (AllReadyH.cons (o := ⟨some 128, _, _, _, _, _⟩) rfl (fun KK hK => ?_) (AllReadyH.nil))
            · have cL := HLD.out _ H.out.bel
              go_simp
              clear cL
              refine hK.out _ _ HSE.out (fun hHeld => ?_)
              clear hK; try clear KK
              try simp only [Act.put, List.setIfInBounds_toArray, List.set_cons_zero, List.set_cons_succ]
              refine wpAnyH_ready (rs := [6, 18]) (by kernel_rfl) (by simp) ?_
              refine AllReadyH.cons (o := ⟨some 116, _, _, _, _, _⟩) rfl (fun KK hK => ?_) (AllReadyH.cons (o := ⟨some 128, _, _, _, _, _⟩) rfl (fun KK hK => ?_) (AllReadyH.nil))
              · refine GA.src H.out (by rfl) _ _ _ (by rfl) i0 (.agg rowZ) 56 Try.underlying27 hi0 hz0 hz1 hz2 (by rfl) (by decide) (by rfl) _ _ _ _ (by rfl) HTL.out (fun hm => HTS.out _ hm H.out.bel) HT1.out (by unfold maxLen; omega) (by omega) ?_
                intro g1 cap1 WX2 H'
                rw [Nat.zero_add, List.nil_append] at H'
                rw [Nat.zero_add]
                replace H := Lib.hid H'
                clear H'
                replace HSE := Lib.hid (HSS.out _ H.out.bel)
                refine hK.out _ _ HSE.out (fun hHeld => ?_)
                clear hK; try clear KK
                try simp only [Act.put, List.setIfInBounds_toArray, List.set_cons_zero, List.set_cons_succ]
                refine wpAnyH_ready (rs := [18]) (by kernel_rfl) (by simp) ?_
                refine AllReadyH.cons (o := ⟨some 128, _, _, _, _, _⟩) rfl (fun KK hK => ?_) AllReadyH.nil
                go_simp
                change KK _ (WX2.alloc (.cells (DRow.cells (ackR m y)) 57))
                replace H := Lib.hid (H.out.new (DRow.cells (ackR m y)))
                generalize WX2.alloc (.cells (DRow.cells (ackR m y)) 57) = WX3 at H ⊢
                generalize WX2.heap.size = nb1 at H ⊢
                replace HSE := Lib.hid (HSS.out _ H.out.bel)
                refine hK.out _ _ HSE.out (fun hHeld => ?_)
                clear hK; try clear KK
                try simp only [Act.put, List.setIfInBounds_toArray, List.set_cons_zero, List.set_cons_succ]
                refine wpAnyH_ready (rs := [19]) (by kernel_rfl) (by simp) ?_
                refine AllReadyH.cons (o := ⟨some 129, _, _, _, _, _⟩) rfl (fun KK hK => ?_) AllReadyH.nil
                refine GA.app H.out (by rfl) _ _ _ (by rfl) i0 (.agg rowZ) 56 Try.underlying27 hi0 hz0 hz1 hz2 (by rfl) (by decide) (by rfl) (by rfl) (cells_size _) (one_row _) (by unfold maxLen; omega) (by omega) ?_
                intro g2 cap2 WX4 H'
                replace H := Lib.hid H'
                clear H'
                replace HSE := Lib.hid (HSS.out _ H.out.bel)
                refine hK.out _ _ HSE.out (fun hHeld => ?_)
                clear hK; try clear KK
                try simp only [Act.put, List.setIfInBounds_toArray, List.set_cons_zero, List.set_cons_succ]
                refine wpAnyH_take (i := 20) (oi := ⟨some 130, _, _, _, _, _⟩) (v := ?_) rfl (by kernel_rfl) (by kernel_rfl) (by kernel_rfl) (fun _ _ _ h => h) (Or.inl ⟨by rfl, ?_⟩) (by assumption) ?_
                rotate_left
                · (intro w hSw; (try dsimp only at hSw); go_simp; (try with_reducible rfl))
                simp only [Act.put, List.setIfInBounds_toArray, List.set_cons_zero, List.set_cons_succ]
                refine wpAnyH_take (i := 21) (oi := ⟨some 131, _, _, _, _, _⟩) (v := ?_) rfl (by kernel_rfl) (by kernel_rfl) (by kernel_rfl) (fun _ _ _ h => h) (Or.inl ⟨by rfl, ?_⟩) (by assumption) ?_
                rotate_left
                · (intro w hSw; (try dsimp only at hSw); go_simp; (try with_reducible rfl))
                simp only [Act.put, List.setIfInBounds_toArray, List.set_cons_zero, List.set_cons_succ]
                refine wpAnyH_ready (rs := [22]) (by kernel_rfl) (by simp) ?_
                refine AllReadyH.cons (o := ⟨none, _, _, _, _, _⟩) rfl (fun KK hK => ?_) AllReadyH.nil
                have cL := HLD.out _ H.out.bel
                have fL := HFZ.out _ H.out.bel
                go_simp
                clear cL fL
                have HFIN := Lib.hid (HRS.out.push1 (l' := L1 ++ [ackR m y]) HN3.out (HN0.out ▸ H.out) (by simp) (rows_snoc L1 (ackR m y)))
                have HCH := Lib.hid (chg_push' (x := .slice (some ⟨g2, 0, none⟩) (L1.length + 1) cap2) HBE.out HN3.out (HN0.out ▸ H.out) 0)
                change KK _ (WX4.setCell ⟨R, 0, none⟩ (.slice (some ⟨g2, 0, none⟩) (L1.length + 1) cap2))
                replace HSE := Lib.hid (HST.out _ (.slice (some ⟨g2, 0, none⟩) (L1.length + 1) cap2) (HSS.out _ H.out.bel))
                generalize WX4.setCell ⟨R, 0, none⟩ (.slice (some ⟨g2, 0, none⟩) (L1.length + 1) cap2) = WX5 at HFIN HCH HSE ⊢
                refine hK.out _ _ HSE.out (fun hHeld => ?_)
                clear hK; try clear KK
                refine wpAnyH_done (by kernel_rfl) ?_ _
                go_wp2_with fail
                go_ret
                exact ⟨⟨_, rfl⟩, ⟨_, _, by rw [HT0.out]; exact HFIN.out⟩, HCH.out⟩
              · go_simp
                change KK _ (WX1.alloc (.cells (DRow.cells (ackR m y)) 57))
                replace H := Lib.hid (H.out.new (DRow.cells (ackR m y)))
                generalize WX1.alloc (.cells (DRow.cells (ackR m y)) 57) = WX6 at H ⊢
                generalize WX1.heap.size = nb1 at H ⊢
                replace HSE := Lib.hid (HSS.out _ H.out.bel)
                refine hK.out _ _ HSE.out (fun hHeld => ?_)
                clear hK; try clear KK
                try simp only [Act.put, List.setIfInBounds_toArray, List.set_cons_zero, List.set_cons_succ]
                refine wpAnyH_ready (rs := [6]) (by kernel_rfl) (by simp) ?_
                refine AllReadyH.cons (o := ⟨some 116, _, _, _, _, _⟩) rfl (fun KK hK => ?_) AllReadyH.nil
                refine GA.src H.out (by rfl) _ _ _ (by rfl) i0 (.agg rowZ) 56 Try.underlying27 hi0 hz0 hz1 hz2 (by rfl) (by decide) (by rfl) _ _ _ _ (by rfl) HTL.out (fun hm => HTS.out _ hm H.out.bel) HT1.out (by unfold maxLen; omega) (by omega) ?_
                intro g1 cap1 WX7 H'
                rw [Nat.zero_add, List.nil_append] at H'
                rw [Nat.zero_add]
                replace H := Lib.hid H'
                clear H'
                replace HSE := Lib.hid (HSS.out _ H.out.bel)
                refine hK.out _ _ HSE.out (fun hHeld => ?_)
                clear hK; try clear KK
                try simp only [Act.put, List.setIfInBounds_toArray, List.set_cons_zero, List.set_cons_succ]
                refine wpAnyH_ready (rs := [19]) (by kernel_rfl) (by simp) ?_
                refine AllReadyH.cons (o := ⟨some 129, _, _, _, _, _⟩) rfl (fun KK hK => ?_) AllReadyH.nil
                refine GA.app H.out (by rfl) _ _ _ (by rfl) i0 (.agg rowZ) 56 Try.underlying27 hi0 hz0 hz1 hz2 (by rfl) (by decide) (by rfl) (by rfl) (cells_size _) (one_row _) (by unfold maxLen; omega) (by omega) ?_
                intro g2 cap2 WX8 H'
                replace H := Lib.hid H'
                clear H'
                replace HSE := Lib.hid (HSS.out _ H.out.bel)
                refine hK.out _ _ HSE.out (fun hHeld => ?_)
                clear hK; try clear KK
                try simp only [Act.put, List.setIfInBounds_toArray, List.set_cons_zero, List.set_cons_succ]
                refine wpAnyH_take (i := 20) (oi := ⟨some 130, _, _, _, _, _⟩) (v := ?_) rfl (by kernel_rfl) (by kernel_rfl) (by kernel_rfl) (fun _ _ _ h => h) (Or.inl ⟨by rfl, ?_⟩) (by assumption) ?_
                rotate_left
                · (intro w hSw; (try dsimp only at hSw); go_simp; (try with_reducible rfl))
                simp only [Act.put, List.setIfInBounds_toArray, List.set_cons_zero, List.set_cons_succ]
                refine wpAnyH_take (i := 21) (oi := ⟨some 131, _, _, _, _, _⟩) (v := ?_) rfl (by kernel_rfl) (by kernel_rfl) (by kernel_rfl) (fun _ _ _ h => h) (Or.inl ⟨by rfl, ?_⟩) (by assumption) ?_
                rotate_left
                · (intro w hSw; (try dsimp only at hSw); go_simp; (try with_reducible rfl))
                simp only [Act.put, List.setIfInBounds_toArray, List.set_cons_zero, List.set_cons_succ]
                refine wpAnyH_ready (rs := [22]) (by kernel_rfl) (by simp) ?_
                refine AllReadyH.cons (o := ⟨none, _, _, _, _, _⟩) rfl (fun KK hK => ?_) AllReadyH.nil
                have cL := HLD.out _ H.out.bel
                have fL := HFZ.out _ H.out.bel
                go_simp
                clear cL fL
                have HFIN := Lib.hid (HRS.out.push1 (l' := L1 ++ [ackR m y]) HN3.out (HN0.out ▸ H.out) (by simp) (rows_snoc L1 (ackR m y)))
                have HCH := Lib.hid (chg_push' (x := .slice (some ⟨g2, 0, none⟩) (L1.length + 1) cap2) HBE.out HN3.out (HN0.out ▸ H.out) 0)
                change KK _ (WX8.setCell ⟨R, 0, none⟩ (.slice (some ⟨g2, 0, none⟩) (L1.length + 1) cap2))
                replace HSE := Lib.hid (HST.out _ (.slice (some ⟨g2, 0, none⟩) (L1.length + 1) cap2) (HSS.out _ H.out.bel))
                generalize WX8.setCell ⟨R, 0, none⟩ (.slice (some ⟨g2, 0, none⟩) (L1.length + 1) cap2) = WX9 at HFIN HCH HSE ⊢
                refine hK.out _ _ HSE.out (fun hHeld => ?_)
                clear hK; try clear KK
                refine wpAnyH_done (by kernel_rfl) ?_ _
                go_wp2_with fail
                go_ret
                exact ⟨⟨_, rfl⟩, ⟨_, _, by rw [HT0.out]; exact HFIN.out⟩, HCH.out⟩
            · go_simp
              change KK _ (WX1.alloc (.cells (DRow.cells (ackR m y)) 57))
              replace H := Lib.hid (H.out.new (DRow.cells (ackR m y)))
              generalize WX1.alloc (.cells (DRow.cells (ackR m y)) 57) = WX10 at H ⊢
              generalize WX1.heap.size = nb1 at H ⊢
              replace HSE := Lib.hid (HSS.out _ H.out.bel)
              refine hK.out _ _ HSE.out (fun hHeld => ?_)
              clear hK; try clear KK
              try simp only [Act.put, List.setIfInBounds_toArray, List.set_cons_zero, List.set_cons_succ]
              refine wpAnyH_ready (rs := [5]) (by kernel_rfl) (by simp) ?_
              refine AllReadyH.cons (o := ⟨some 115, _, _, _, _, _⟩) rfl (fun KK hK => ?_) AllReadyH.nil
              have cL := HLD.out _ H.out.bel
              go_simp
              clear cL
              refine hK.out _ _ HSE.out (fun hHeld => ?_)
              clear hK; try clear KK
              try simp only [Act.put, List.setIfInBounds_toArray, List.set_cons_zero, List.set_cons_succ]
              refine wpAnyH_ready (rs := [6]) (by kernel_rfl) (by simp) ?_
              refine AllReadyH.cons (o := ⟨some 116, _, _, _, _, _⟩) rfl (fun KK hK => ?_) AllReadyH.nil
              refine GA.src H.out (by rfl) _ _ _ (by rfl) i0 (.agg rowZ) 56 Try.underlying27 hi0 hz0 hz1 hz2 (by rfl) (by decide) (by rfl) _ _ _ _ (by rfl) HTL.out (fun hm => HTS.out _ hm H.out.bel) HT1.out (by unfold maxLen; omega) (by omega) ?_
              intro g1 cap1 WX11 H'
              rw [Nat.zero_add, List.nil_append] at H'
              rw [Nat.zero_add]
              replace H := Lib.hid H'
              clear H'
              replace HSE := Lib.hid (HSS.out _ H.out.bel)
              refine hK.out _ _ HSE.out (fun hHeld => ?_)
              clear hK; try clear KK
              try simp only [Act.put, List.setIfInBounds_toArray, List.set_cons_zero, List.set_cons_succ]
              refine wpAnyH_ready (rs := [19]) (by kernel_rfl) (by simp) ?_
              refine AllReadyH.cons (o := ⟨some 129, _, _, _, _, _⟩) rfl (fun KK hK => ?_) AllReadyH.nil
              refine GA.app H.out (by rfl) _ _ _ (by rfl) i0 (.agg rowZ) 56 Try.underlying27 hi0 hz0 hz1 hz2 (by rfl) (by decide) (by rfl) (by rfl) (cells_size _) (one_row _) (by unfold maxLen; omega) (by omega) ?_
              intro g2 cap2 WX12 H'
              replace H := Lib.hid H'
              clear H'
              replace HSE := Lib.hid (HSS.out _ H.out.bel)
              refine hK.out _ _ HSE.out (fun hHeld => ?_)
              clear hK; try clear KK
              try simp only [Act.put, List.setIfInBounds_toArray, List.set_cons_zero, List.set_cons_succ]
              refine wpAnyH_take (i := 20) (oi := ⟨some 130, _, _, _, _, _⟩) (v := ?_) rfl (by kernel_rfl) (by kernel_rfl) (by kernel_rfl) (fun _ _ _ h => h) (Or.inl ⟨by rfl, ?_⟩) (by assumption) ?_
              rotate_left
              · (intro w hSw; (try dsimp only at hSw); go_simp; (try with_reducible rfl))
              simp only [Act.put, List.setIfInBounds_toArray, List.set_cons_zero, List.set_cons_succ]
              refine wpAnyH_take (i := 21) (oi := ⟨some 131, _, _, _, _, _⟩) (v := ?_) rfl (by kernel_rfl) (by kernel_rfl) (by kernel_rfl) (fun _ _ _ h => h) (Or.inl ⟨by rfl, ?_⟩) (by assumption) ?_
              rotate_left
              · (intro w hSw; (try dsimp only at hSw); go_simp; (try with_reducible rfl))
              simp only [Act.put, List.setIfInBounds_toArray, List.set_cons_zero, List.set_cons_succ]
              refine wpAnyH_ready (rs := [22]) (by kernel_rfl) (by simp) ?_
              refine AllReadyH.cons (o := ⟨none, _, _, _, _, _⟩) rfl (fun KK hK => ?_) AllReadyH.nil
              have cL := HLD.out _ H.out.bel
              have fL := HFZ.out _ H.out.bel
              go_simp
              clear cL fL
              have HFIN := Lib.hid (HRS.out.push1 (l' := L1 ++ [ackR m y]) HN3.out (HN0.out ▸ H.out) (by simp) (rows_snoc L1 (ackR m y)))
              have HCH := Lib.hid (chg_push' (x := .slice (some ⟨g2, 0, none⟩) (L1.length + 1) cap2) HBE.out HN3.out (HN0.out ▸ H.out) 0)
              change KK _ (WX12.setCell ⟨R, 0, none⟩ (.slice (some ⟨g2, 0, none⟩) (L1.length + 1) cap2))
              replace HSE := Lib.hid (HST.out _ (.slice (some ⟨g2, 0, none⟩) (L1.length + 1) cap2) (HSS.out _ H.out.bel))
              generalize WX12.setCell ⟨R, 0, none⟩ (.slice (some ⟨g2, 0, none⟩) (L1.length + 1) cap2) = WX13 at HFIN HCH HSE ⊢
              refine hK.out _ _ HSE.out (fun hHeld => ?_)
              clear hK; try clear KK
              refine wpAnyH_done (by kernel_rfl) ?_ _
              go_wp2_with fail
              go_ret
              exact ⟨⟨_, rfl⟩, ⟨_, _, by rw [HT0.out]; exact HFIN.out⟩, HCH.out⟩
          · have cL := HLD.out _ H.out.bel
            go_simp
            clear cL
            refine hK.out _ _ HSE.out (fun hHeld => ?_)
            clear hK; try clear KK
            try simp only [Act.put, List.setIfInBounds_toArray, List.set_cons_zero, List.set_cons_succ]
            refine wpAnyH_ready (rs := [1, 18]) (by kernel_rfl) (by simp) ?_
            refine AllReadyH.cons (o := ⟨some 111, _, _, _, _, _⟩) rfl (fun KK hK => ?_) (AllReadyH.cons (o := ⟨some 128, _, _, _, _, _⟩) rfl (fun KK hK => ?_) (AllReadyH.nil))
            · go_simp
              change KK _ (w3.alloc (.cells #[] 57))
              replace H := Lib.hid H.out.empty
              generalize w3.alloc (.cells #[] 57) = WX14 at H ⊢
              generalize w3.heap.size = e1 at H ⊢
              replace HSE := Lib.hid (HSS.out _ H.out.bel)
              refine hK.out _ _ HSE.out (fun hHeld => ?_)
              clear hK; try clear KK
              try simp only [Act.put, List.setIfInBounds_toArray, List.set_cons_zero, List.set_cons_succ]
              refine wpAnyH_ready (rs := [6, 18]) (by kernel_rfl) (by simp) ?_
              refine AllReadyH.cons (o := ⟨some 116, _, _, _, _, _⟩) rfl (fun KK hK => ?_) (AllReadyH.cons (o := ⟨some 128, _, _, _, _, _⟩) rfl (fun KK hK => ?_) (AllReadyH.nil))
              · refine GA.src H.out (by rfl) _ _ _ (by rfl) i0 (.agg rowZ) 56 Try.underlying27 hi0 hz0 hz1 hz2 (by rfl) (by decide) (by rfl) _ _ _ _ (by rfl) HTL.out (fun hm => HTS.out _ hm H.out.bel) HT1.out (by unfold maxLen; omega) (by omega) ?_
                intro g1 cap1 WX15 H'
                rw [Nat.zero_add, List.nil_append] at H'
                rw [Nat.zero_add]
                replace H := Lib.hid H'
                clear H'
                replace HSE := Lib.hid (HSS.out _ H.out.bel)
                refine hK.out _ _ HSE.out (fun hHeld => ?_)
                clear hK; try clear KK
                try simp only [Act.put, List.setIfInBounds_toArray, List.set_cons_zero, List.set_cons_succ]
                refine wpAnyH_ready (rs := [18]) (by kernel_rfl) (by simp) ?_
                refine AllReadyH.cons (o := ⟨some 128, _, _, _, _, _⟩) rfl (fun KK hK => ?_) AllReadyH.nil
                go_simp
                change KK _ (WX15.alloc (.cells (DRow.cells (ackR m y)) 57))
                replace H := Lib.hid (H.out.new (DRow.cells (ackR m y)))
                generalize WX15.alloc (.cells (DRow.cells (ackR m y)) 57) = WX16 at H ⊢
                generalize WX15.heap.size = nb1 at H ⊢
                replace HSE := Lib.hid (HSS.out _ H.out.bel)
                refine hK.out _ _ HSE.out (fun hHeld => ?_)
                clear hK; try clear KK
                try simp only [Act.put, List.setIfInBounds_toArray, List.set_cons_zero, List.set_cons_succ]
                refine wpAnyH_ready (rs := [19]) (by kernel_rfl) (by simp) ?_
                refine AllReadyH.cons (o := ⟨some 129, _, _, _, _, _⟩) rfl (fun KK hK => ?_) AllReadyH.nil
                refine GA.app H.out (by rfl) _ _ _ (by rfl) i0 (.agg rowZ) 56 Try.underlying27 hi0 hz0 hz1 hz2 (by rfl) (by decide) (by rfl) (by rfl) (cells_size _) (one_row _) (by unfold maxLen; omega) (by omega) ?_
                intro g2 cap2 WX17 H'
                replace H := Lib.hid H'
                clear H'
                replace HSE := Lib.hid (HSS.out _ H.out.bel)
                refine hK.out _ _ HSE.out (fun hHeld => ?_)
                clear hK; try clear KK
                try simp only [Act.put, List.setIfInBounds_toArray, List.set_cons_zero, List.set_cons_succ]
                refine wpAnyH_take (i := 20) (oi := ⟨some 130, _, _, _, _, _⟩) (v := ?_) rfl (by kernel_rfl) (by kernel_rfl) (by kernel_rfl) (fun _ _ _ h => h) (Or.inl ⟨by rfl, ?_⟩) (by assumption) ?_
                rotate_left
                · (intro w hSw; (try dsimp only at hSw); go_simp; (try with_reducible rfl))
                simp only [Act.put, List.setIfInBounds_toArray, List.set_cons_zero, List.set_cons_succ]
                refine wpAnyH_take (i := 21) (oi := ⟨some 131, _, _, _, _, _⟩) (v := ?_) rfl (by kernel_rfl) (by kernel_rfl) (by kernel_rfl) (fun _ _ _ h => h) (Or.inl ⟨by rfl, ?_⟩) (by assumption) ?_
                rotate_left
                · (intro w hSw; (try dsimp only at hSw); go_simp; (try with_reducible rfl))
                simp only [Act.put, List.setIfInBounds_toArray, List.set_cons_zero, List.set_cons_succ]
                refine wpAnyH_ready (rs := [22]) (by kernel_rfl) (by simp) ?_
                refine AllReadyH.cons (o := ⟨none, _, _, _, _, _⟩) rfl (fun KK hK => ?_) AllReadyH.nil
                have cL := HLD.out _ H.out.bel
                have fL := HFZ.out _ H.out.bel
                go_simp
                clear cL fL
                have HFIN := Lib.hid (HRS.out.push1 (l' := L1 ++ [ackR m y]) HN3.out (HN0.out ▸ H.out) (by simp) (rows_snoc L1 (ackR m y)))
                have HCH := Lib.hid (chg_push' (x := .slice (some ⟨g2, 0, none⟩) (L1.length + 1) cap2) HBE.out HN3.out (HN0.out ▸ H.out) 0)
                change KK _ (WX17.setCell ⟨R, 0, none⟩ (.slice (some ⟨g2, 0, none⟩) (L1.length + 1) cap2))
                replace HSE := Lib.hid (HST.out _ (.slice (some ⟨g2, 0, none⟩) (L1.length + 1) cap2) (HSS.out _ H.out.bel))
                generalize WX17.setCell ⟨R, 0, none⟩ (.slice (some ⟨g2, 0, none⟩) (L1.length + 1) cap2) = WX18 at HFIN HCH HSE ⊢
                refine hK.out _ _ HSE.out (fun hHeld => ?_)
                clear hK; try clear KK
                refine wpAnyH_done (by kernel_rfl) ?_ _
                go_wp2_with fail
                go_ret
                exact ⟨⟨_, rfl⟩, ⟨_, _, by rw [HT0.out]; exact HFIN.out⟩, HCH.out⟩
              · go_simp
                change KK _ (WX14.alloc (.cells (DRow.cells (ackR m y)) 57))
                replace H := Lib.hid (H.out.new (DRow.cells (ackR m y)))
                generalize WX14.alloc (.cells (DRow.cells (ackR m y)) 57) = WX19 at H ⊢
                generalize WX14.heap.size = nb1 at H ⊢
                replace HSE := Lib.hid (HSS.out _ H.out.bel)
                refine hK.out _ _ HSE.out (fun hHeld => ?_)
                clear hK; try clear KK
                try simp only [Act.put, List.setIfInBounds_toArray, List.set_cons_zero, List.set_cons_succ]
                refine wpAnyH_ready (rs := [6]) (by kernel_rfl) (by simp) ?_
                refine AllReadyH.cons (o := ⟨some 116, _, _, _, _, _⟩) rfl (fun KK hK => ?_) AllReadyH.nil
                refine GA.src H.out (by rfl) _ _ _ (by rfl) i0 (.agg rowZ) 56 Try.underlying27 hi0 hz0 hz1 hz2 (by rfl) (by decide) (by rfl) _ _ _ _ (by rfl) HTL.out (fun hm => HTS.out _ hm H.out.bel) HT1.out (by unfold maxLen; omega) (by omega) ?_
                intro g1 cap1 WX20 H'
                rw [Nat.zero_add, List.nil_append] at H'
                rw [Nat.zero_add]
                replace H := Lib.hid H'
                clear H'
                replace HSE := Lib.hid (HSS.out _ H.out.bel)
                refine hK.out _ _ HSE.out (fun hHeld => ?_)
                clear hK; try clear KK
                try simp only [Act.put, List.setIfInBounds_toArray, List.set_cons_zero, List.set_cons_succ]
                refine wpAnyH_ready (rs := [19]) (by kernel_rfl) (by simp) ?_
                refine AllReadyH.cons (o := ⟨some 129, _, _, _, _, _⟩) rfl (fun KK hK => ?_) AllReadyH.nil
                refine GA.app H.out (by rfl) _ _ _ (by rfl) i0 (.agg rowZ) 56 Try.underlying27 hi0 hz0 hz1 hz2 (by rfl) (by decide) (by rfl) (by rfl) (cells_size _) (one_row _) (by unfold maxLen; omega) (by omega) ?_
                intro g2 cap2 WX21 H'
                replace H := Lib.hid H'
                clear H'
                replace HSE := Lib.hid (HSS.out _ H.out.bel)
                refine hK.out _ _ HSE.out (fun hHeld => ?_)
                clear hK; try clear KK
                try simp only [Act.put, List.setIfInBounds_toArray, List.set_cons_zero, List.set_cons_succ]
                refine wpAnyH_take (i := 20) (oi := ⟨some 130, _, _, _, _, _⟩) (v := ?_) rfl (by kernel_rfl) (by kernel_rfl) (by kernel_rfl) (fun _ _ _ h => h) (Or.inl ⟨by rfl, ?_⟩) (by assumption) ?_
                rotate_left
                · (intro w hSw; (try dsimp only at hSw); go_simp; (try with_reducible rfl))
                simp only [Act.put, List.setIfInBounds_toArray, List.set_cons_zero, List.set_cons_succ]
                refine wpAnyH_take (i := 21) (oi := ⟨some 131, _, _, _, _, _⟩) (v := ?_) rfl (by kernel_rfl) (by kernel_rfl) (by kernel_rfl) (fun _ _ _ h => h) (Or.inl ⟨by rfl, ?_⟩) (by assumption) ?_
                rotate_left
                · (intro w hSw; (try dsimp only at hSw); go_simp; (try with_reducible rfl))
                simp only [Act.put, List.setIfInBounds_toArray, List.set_cons_zero, List.set_cons_succ]
                refine wpAnyH_ready (rs := [22]) (by kernel_rfl) (by simp) ?_
                refine AllReadyH.cons (o := ⟨none, _, _, _, _, _⟩) rfl (fun KK hK => ?_) AllReadyH.nil
                have cL := HLD.out _ H.out.bel
                have fL := HFZ.out _ H.out.bel
                go_simp
                clear cL fL
                have HFIN := Lib.hid (HRS.out.push1 (l' := L1 ++ [ackR m y]) HN3.out (HN0.out ▸ H.out) (by simp) (rows_snoc L1 (ackR m y)))
                have HCH := Lib.hid (chg_push' (x := .slice (some ⟨g2, 0, none⟩) (L1.length + 1) cap2) HBE.out HN3.out (HN0.out ▸ H.out) 0)
                change KK _ (WX21.setCell ⟨R, 0, none⟩ (.slice (some ⟨g2, 0, none⟩) (L1.length + 1) cap2))
                replace HSE := Lib.hid (HST.out _ (.slice (some ⟨g2, 0, none⟩) (L1.length + 1) cap2) (HSS.out _ H.out.bel))
                generalize WX21.setCell ⟨R, 0, none⟩ (.slice (some ⟨g2, 0, none⟩) (L1.length + 1) cap2) = WX22 at HFIN HCH HSE ⊢
                refine hK.out _ _ HSE.out (fun hHeld => ?_)
                clear hK; try clear KK
                refine wpAnyH_done (by kernel_rfl) ?_ _
                go_wp2_with fail
                go_ret
                exact ⟨⟨_, rfl⟩, ⟨_, _, by rw [HT0.out]; exact HFIN.out⟩, HCH.out⟩
            · go_simp
              change KK _ (w3.alloc (.cells (DRow.cells (ackR m y)) 57))
              replace H := Lib.hid (H.out.new (DRow.cells (ackR m y)))
              generalize w3.alloc (.cells (DRow.cells (ackR m y)) 57) = WX23 at H ⊢
              generalize w3.heap.size = nb1 at H ⊢
              replace HSE := Lib.hid (HSS.out _ H.out.bel)
              refine hK.out _ _ HSE.out (fun hHeld => ?_)
              clear hK; try clear KK
              try simp only [Act.put, List.setIfInBounds_toArray, List.set_cons_zero, List.set_cons_succ]
              refine wpAnyH_ready (rs := [1]) (by kernel_rfl) (by simp) ?_
              refine AllReadyH.cons (o := ⟨some 111, _, _, _, _, _⟩) rfl (fun KK hK => ?_) AllReadyH.nil
              go_simp
              change KK _ (WX23.alloc (.cells #[] 57))
              replace H := Lib.hid H.out.empty
              generalize WX23.alloc (.cells #[] 57) = WX24 at H ⊢
              generalize WX23.heap.size = e1 at H ⊢
              replace HSE := Lib.hid (HSS.out _ H.out.bel)
              refine hK.out _ _ HSE.out (fun hHeld => ?_)
              clear hK; try clear KK
              try simp only [Act.put, List.setIfInBounds_toArray, List.set_cons_zero, List.set_cons_succ]
              refine wpAnyH_ready (rs := [6]) (by kernel_rfl) (by simp) ?_
              refine AllReadyH.cons (o := ⟨some 116, _, _, _, _, _⟩) rfl (fun KK hK => ?_) AllReadyH.nil
              refine GA.src H.out (by rfl) _ _ _ (by rfl) i0 (.agg rowZ) 56 Try.underlying27 hi0 hz0 hz1 hz2 (by rfl) (by decide) (by rfl) _ _ _ _ (by rfl) HTL.out (fun hm => HTS.out _ hm H.out.bel) HT1.out (by unfold maxLen; omega) (by omega) ?_
              intro g1 cap1 WX25 H'
              rw [Nat.zero_add, List.nil_append] at H'
              rw [Nat.zero_add]
              replace H := Lib.hid H'
              clear H'
              replace HSE := Lib.hid (HSS.out _ H.out.bel)
              refine hK.out _ _ HSE.out (fun hHeld => ?_)
              clear hK; try clear KK
              try simp only [Act.put, List.setIfInBounds_toArray, List.set_cons_zero, List.set_cons_succ]
              refine wpAnyH_ready (rs := [19]) (by kernel_rfl) (by simp) ?_
              refine AllReadyH.cons (o := ⟨some 129, _, _, _, _, _⟩) rfl (fun KK hK => ?_) AllReadyH.nil
              refine GA.app H.out (by rfl) _ _ _ (by rfl) i0 (.agg rowZ) 56 Try.underlying27 hi0 hz0 hz1 hz2 (by rfl) (by decide) (by rfl) (by rfl) (cells_size _) (one_row _) (by unfold maxLen; omega) (by omega) ?_
              intro g2 cap2 WX26 H'
              replace H := Lib.hid H'
              clear H'
              replace HSE := Lib.hid (HSS.out _ H.out.bel)
              refine hK.out _ _ HSE.out (fun hHeld => ?_)
              clear hK; try clear KK
              try simp only [Act.put, List.setIfInBounds_toArray, List.set_cons_zero, List.set_cons_succ]
              refine wpAnyH_take (i := 20) (oi := ⟨some 130, _, _, _, _, _⟩) (v := ?_) rfl (by kernel_rfl) (by kernel_rfl) (by kernel_rfl) (fun _ _ _ h => h) (Or.inl ⟨by rfl, ?_⟩) (by assumption) ?_
              rotate_left
              · (intro w hSw; (try dsimp only at hSw); go_simp; (try with_reducible rfl))
              simp only [Act.put, List.setIfInBounds_toArray, List.set_cons_zero, List.set_cons_succ]
              refine wpAnyH_take (i := 21) (oi := ⟨some 131, _, _, _, _, _⟩) (v := ?_) rfl (by kernel_rfl) (by kernel_rfl) (by kernel_rfl) (fun _ _ _ h => h) (Or.inl ⟨by rfl, ?_⟩) (by assumption) ?_
              rotate_left
              · (intro w hSw; (try dsimp only at hSw); go_simp; (try with_reducible rfl))
              simp only [Act.put, List.setIfInBounds_toArray, List.set_cons_zero, List.set_cons_succ]
              refine wpAnyH_ready (rs := [22]) (by kernel_rfl) (by simp) ?_
              refine AllReadyH.cons (o := ⟨none, _, _, _, _, _⟩) rfl (fun KK hK => ?_) AllReadyH.nil
              have cL := HLD.out _ H.out.bel
              have fL := HFZ.out _ H.out.bel
              go_simp
              clear cL fL
              have HFIN := Lib.hid (HRS.out.push1 (l' := L1 ++ [ackR m y]) HN3.out (HN0.out ▸ H.out) (by simp) (rows_snoc L1 (ackR m y)))
              have HCH := Lib.hid (chg_push' (x := .slice (some ⟨g2, 0, none⟩) (L1.length + 1) cap2) HBE.out HN3.out (HN0.out ▸ H.out) 0)
              change KK _ (WX26.setCell ⟨R, 0, none⟩ (.slice (some ⟨g2, 0, none⟩) (L1.length + 1) cap2))
              replace HSE := Lib.hid (HST.out _ (.slice (some ⟨g2, 0, none⟩) (L1.length + 1) cap2) (HSS.out _ H.out.bel))
              generalize WX26.setCell ⟨R, 0, none⟩ (.slice (some ⟨g2, 0, none⟩) (L1.length + 1) cap2) = WX27 at HFIN HCH HSE ⊢
              refine hK.out _ _ HSE.out (fun hHeld => ?_)
              clear hK; try clear KK
              refine wpAnyH_done (by kernel_rfl) ?_ _
              go_wp2_with fail
              go_ret
              exact ⟨⟨_, rfl⟩, ⟨_, _, by rw [HT0.out]; exact HFIN.out⟩, HCH.out⟩
          · go_simp
            change KK _ (w3.alloc (.cells (DRow.cells (ackR m y)) 57))
            replace H := Lib.hid (H.out.new (DRow.cells (ackR m y)))
            generalize w3.alloc (.cells (DRow.cells (ackR m y)) 57) = WX28 at H ⊢
            generalize w3.heap.size = nb1 at H ⊢
            replace HSE := Lib.hid (HSS.out _ H.out.bel)
            refine hK.out _ _ HSE.out (fun hHeld => ?_)
            clear hK; try clear KK
            try simp only [Act.put, List.setIfInBounds_toArray, List.set_cons_zero, List.set_cons_succ]
            refine wpAnyH_ready (rs := [1, 5]) (by kernel_rfl) (by simp) ?_
            refine AllReadyH.cons (o := ⟨some 111, _, _, _, _, _⟩) rfl (fun KK hK => ?_) (AllReadyH.cons (o := ⟨some 115, _, _, _, _, _⟩) rfl (fun KK hK => ?_) (AllReadyH.nil))
            · go_simp
              change KK _ (WX28.alloc (.cells #[] 57))
              replace H := Lib.hid H.out.empty
              generalize WX28.alloc (.cells #[] 57) = WX29 at H ⊢
              generalize WX28.heap.size = e1 at H ⊢
              replace HSE := Lib.hid (HSS.out _ H.out.bel)
              refine hK.out _ _ HSE.out (fun hHeld => ?_)
              clear hK; try clear KK
              try simp only [Act.put, List.setIfInBounds_toArray, List.set_cons_zero, List.set_cons_succ]
              refine wpAnyH_ready (rs := [5]) (by kernel_rfl) (by simp) ?_
              refine AllReadyH.cons (o := ⟨some 115, _, _, _, _, _⟩) rfl (fun KK hK => ?_) AllReadyH.nil
              have cL := HLD.out _ H.out.bel
              go_simp
              clear cL
              refine hK.out _ _ HSE.out (fun hHeld => ?_)
              clear hK; try clear KK
              try simp only [Act.put, List.setIfInBounds_toArray, List.set_cons_zero, List.set_cons_succ]
              refine wpAnyH_ready (rs := [6]) (by kernel_rfl) (by simp) ?_
              refine AllReadyH.cons (o := ⟨some 116, _, _, _, _, _⟩) rfl (fun KK hK => ?_) AllReadyH.nil
              refine GA.src H.out (by rfl) _ _ _ (by rfl) i0 (.agg rowZ) 56 Try.underlying27 hi0 hz0 hz1 hz2 (by rfl) (by decide) (by rfl) _ _ _ _ (by rfl) HTL.out (fun hm => HTS.out _ hm H.out.bel) HT1.out (by unfold maxLen; omega) (by omega) ?_
              intro g1 cap1 WX30 H'
              rw [Nat.zero_add, List.nil_append] at H'
              rw [Nat.zero_add]
              replace H := Lib.hid H'
              clear H'
              replace HSE := Lib.hid (HSS.out _ H.out.bel)
              refine hK.out _ _ HSE.out (fun hHeld => ?_)
              clear hK; try clear KK
              try simp only [Act.put, List.setIfInBounds_toArray, List.set_cons_zero, List.set_cons_succ]
              refine wpAnyH_ready (rs := [19]) (by kernel_rfl) (by simp) ?_
              refine AllReadyH.cons (o := ⟨some 129, _, _, _, _, _⟩) rfl (fun KK hK => ?_) AllReadyH.nil
              refine GA.app H.out (by rfl) _ _ _ (by rfl) i0 (.agg rowZ) 56 Try.underlying27 hi0 hz0 hz1 hz2 (by rfl) (by decide) (by rfl) (by rfl) (cells_size _) (one_row _) (by unfold maxLen; omega) (by omega) ?_
              intro g2 cap2 WX31 H'
              replace H := Lib.hid H'
              clear H'
              replace HSE := Lib.hid (HSS.out _ H.out.bel)
              refine hK.out _ _ HSE.out (fun hHeld => ?_)
              clear hK; try clear KK
              try simp only [Act.put, List.setIfInBounds_toArray, List.set_cons_zero, List.set_cons_succ]
              refine wpAnyH_take (i := 20) (oi := ⟨some 130, _, _, _, _, _⟩) (v := ?_) rfl (by kernel_rfl) (by kernel_rfl) (by kernel_rfl) (fun _ _ _ h => h) (Or.inl ⟨by rfl, ?_⟩) (by assumption) ?_
              rotate_left
              · (intro w hSw; (try dsimp only at hSw); go_simp; (try with_reducible rfl))
              simp only [Act.put, List.setIfInBounds_toArray, List.set_cons_zero, List.set_cons_succ]
              refine wpAnyH_take (i := 21) (oi := ⟨some 131, _, _, _, _, _⟩) (v := ?_) rfl (by kernel_rfl) (by kernel_rfl) (by kernel_rfl) (fun _ _ _ h => h) (Or.inl ⟨by rfl, ?_⟩) (by assumption) ?_
              rotate_left
              · (intro w hSw; (try dsimp only at hSw); go_simp; (try with_reducible rfl))
              simp only [Act.put, List.setIfInBounds_toArray, List.set_cons_zero, List.set_cons_succ]
              refine wpAnyH_ready (rs := [22]) (by kernel_rfl) (by simp) ?_
              refine AllReadyH.cons (o := ⟨none, _, _, _, _, _⟩) rfl (fun KK hK => ?_) AllReadyH.nil
              have cL := HLD.out _ H.out.bel
              have fL := HFZ.out _ H.out.bel
              go_simp
              clear cL fL
              have HFIN := Lib.hid (HRS.out.push1 (l' := L1 ++ [ackR m y]) HN3.out (HN0.out ▸ H.out) (by simp) (rows_snoc L1 (ackR m y)))
              have HCH := Lib.hid (chg_push' (x := .slice (some ⟨g2, 0, none⟩) (L1.length + 1) cap2) HBE.out HN3.out (HN0.out ▸ H.out) 0)
              change KK _ (WX31.setCell ⟨R, 0, none⟩ (.slice (some ⟨g2, 0, none⟩) (L1.length + 1) cap2))
              replace HSE := Lib.hid (HST.out _ (.slice (some ⟨g2, 0, none⟩) (L1.length + 1) cap2) (HSS.out _ H.out.bel))
              generalize WX31.setCell ⟨R, 0, none⟩ (.slice (some ⟨g2, 0, none⟩) (L1.length + 1) cap2) = WX32 at HFIN HCH HSE ⊢
              refine hK.out _ _ HSE.out (fun hHeld => ?_)
              clear hK; try clear KK
              refine wpAnyH_done (by kernel_rfl) ?_ _
              go_wp2_with fail
              go_ret
              exact ⟨⟨_, rfl⟩, ⟨_, _, by rw [HT0.out]; exact HFIN.out⟩, HCH.out⟩
            · have cL := HLD.out _ H.out.bel
              go_simp
              clear cL
              refine hK.out _ _ HSE.out (fun hHeld => ?_)
              clear hK; try clear KK
              try simp only [Act.put, List.setIfInBounds_toArray, List.set_cons_zero, List.set_cons_succ]
              refine wpAnyH_ready (rs := [1]) (by kernel_rfl) (by simp) ?_
              refine AllReadyH.cons (o := ⟨some 111, _, _, _, _, _⟩) rfl (fun KK hK => ?_) AllReadyH.nil
              go_simp
              change KK _ (WX28.alloc (.cells #[] 57))
              replace H := Lib.hid H.out.empty
              generalize WX28.alloc (.cells #[] 57) = WX33 at H ⊢
              generalize WX28.heap.size = e1 at H ⊢
              replace HSE := Lib.hid (HSS.out _ H.out.bel)
              refine hK.out _ _ HSE.out (fun hHeld => ?_)
              clear hK; try clear KK
              try simp only [Act.put, List.setIfInBounds_toArray, List.set_cons_zero, List.set_cons_succ]
              refine wpAnyH_ready (rs := [6]) (by kernel_rfl) (by simp) ?_
              refine AllReadyH.cons (o := ⟨some 116, _, _, _, _, _⟩) rfl (fun KK hK => ?_) AllReadyH.nil
              refine GA.src H.out (by rfl) _ _ _ (by rfl) i0 (.agg rowZ) 56 Try.underlying27 hi0 hz0 hz1 hz2 (by rfl) (by decide) (by rfl) _ _ _ _ (by rfl) HTL.out (fun hm => HTS.out _ hm H.out.bel) HT1.out (by unfold maxLen; omega) (by omega) ?_
              intro g1 cap1 WX34 H'
              rw [Nat.zero_add, List.nil_append] at H'
              rw [Nat.zero_add]
              replace H := Lib.hid H'
              clear H'
              replace HSE := Lib.hid (HSS.out _ H.out.bel)
              refine hK.out _ _ HSE.out (fun hHeld => ?_)
              clear hK; try clear KK
              try simp only [Act.put, List.setIfInBounds_toArray, List.set_cons_zero, List.set_cons_succ]
              refine wpAnyH_ready (rs := [19]) (by kernel_rfl) (by simp) ?_
              refine AllReadyH.cons (o := ⟨some 129, _, _, _, _, _⟩) rfl (fun KK hK => ?_) AllReadyH.nil
              refine GA.app H.out (by rfl) _ _ _ (by rfl) i0 (.agg rowZ) 56 Try.underlying27 hi0 hz0 hz1 hz2 (by rfl) (by decide) (by rfl) (by rfl) (cells_size _) (one_row _) (by unfold maxLen; omega) (by omega) ?_
              intro g2 cap2 WX35 H'
              replace H := Lib.hid H'
              clear H'
              replace HSE := Lib.hid (HSS.out _ H.out.bel)
              refine hK.out _ _ HSE.out (fun hHeld => ?_)
              clear hK; try clear KK
              try simp only [Act.put, List.setIfInBounds_toArray, List.set_cons_zero, List.set_cons_succ]
              refine wpAnyH_take (i := 20) (oi := ⟨some 130, _, _, _, _, _⟩) (v := ?_) rfl (by kernel_rfl) (by kernel_rfl) (by kernel_rfl) (fun _ _ _ h => h) (Or.inl ⟨by rfl, ?_⟩) (by assumption) ?_
              rotate_left
              · (intro w hSw; (try dsimp only at hSw); go_simp; (try with_reducible rfl))
              simp only [Act.put, List.setIfInBounds_toArray, List.set_cons_zero, List.set_cons_succ]
              refine wpAnyH_take (i := 21) (oi := ⟨some 131, _, _, _, _, _⟩) (v := ?_) rfl (by kernel_rfl) (by kernel_rfl) (by kernel_rfl) (fun _ _ _ h => h) (Or.inl ⟨by rfl, ?_⟩) (by assumption) ?_
              rotate_left
              · (intro w hSw; (try dsimp only at hSw); go_simp; (try with_reducible rfl))
              simp only [Act.put, List.setIfInBounds_toArray, List.set_cons_zero, List.set_cons_succ]
              refine wpAnyH_ready (rs := [22]) (by kernel_rfl) (by simp) ?_
              refine AllReadyH.cons (o := ⟨none, _, _, _, _, _⟩) rfl (fun KK hK => ?_) AllReadyH.nil
              have cL := HLD.out _ H.out.bel
              have fL := HFZ.out _ H.out.bel
              go_simp
              clear cL fL
              have HFIN := Lib.hid (HRS.out.push1 (l' := L1 ++ [ackR m y]) HN3.out (HN0.out ▸ H.out) (by simp) (rows_snoc L1 (ackR m y)))
              have HCH := Lib.hid (chg_push' (x := .slice (some ⟨g2, 0, none⟩) (L1.length + 1) cap2) HBE.out HN3.out (HN0.out ▸ H.out) 0)
              change KK _ (WX35.setCell ⟨R, 0, none⟩ (.slice (some ⟨g2, 0, none⟩) (L1.length + 1) cap2))
              replace HSE := Lib.hid (HST.out _ (.slice (some ⟨g2, 0, none⟩) (L1.length + 1) cap2) (HSS.out _ H.out.bel))
              generalize WX35.setCell ⟨R, 0, none⟩ (.slice (some ⟨g2, 0, none⟩) (L1.length + 1) cap2) = WX36 at HFIN HCH HSE ⊢
              refine hK.out _ _ HSE.out (fun hHeld => ?_)
              clear hK; try clear KK
              refine wpAnyH_done (by kernel_rfl) ?_ _
              go_wp2_with fail
              go_ret
              exact ⟨⟨_, rfl⟩, ⟨_, _, by rw [HT0.out]; exact HFIN.out⟩, HCH.out⟩
end Go.Proofs.Ytmkcooamgojbpaa.Ledger
