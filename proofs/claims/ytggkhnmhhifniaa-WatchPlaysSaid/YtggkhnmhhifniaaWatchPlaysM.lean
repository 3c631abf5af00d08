/- The walk of damperlaw32.WatchPlays: it returns true, and writes nothing that was there. -/
import Derived.Test.YtggkhnmhhifniaaWatchPlaysW
namespace Go.Proofs.Ytggkhnmhhifniaa.Watch
open Go.RowKit Go.Proofs.Ytggkhnmhhifniaa.Kit Go.Proofs.Ytggkhnmhhifniaa.Blk Go.Proofs.Ytggkhnmhhifniaa.Symbol Go.Proofs.Ytggkhnmhhifniaa.Check
attribute [local go_sem ↓] Go.wp_at_zero Go.wp_at_succ

theorem bothRow {w wr : World} {P L rc Q M qc : Nat} {c : Cfg} {sa ta : Option Addr} {sc tc : Nat} {a : Option Addr} {l : List Msg} {ks : List Kn} {seq tick : Int} (h : Both w wr P L rc Q M qc c sa ta sc tc a l ks seq tick)
    (k : Nat) (hk : k < l.length) : ∃ b off, a = some ⟨b, off, none⟩ ∧ b < w.heap.size ∧ ∀ (j : Nat) (v : Value), l[k].cells[j]? = some v → w.cell? ⟨b, off + k * 9 + j, none⟩ = some v := h.row k hk

set_option maxRecDepth 20000 in
set_option maxHeartbeats 8000000 in
theorem plays (c : Cfg) (sa ta : Option Addr) (sc tc : Nat) (a : Option Addr) (cap : Nat) (l : List Msg) (w : World) (hin : c.In w sa ta) (hm : MsgRow w a l) (hs : Seqs l) :
    Calls Try.prog 3 #[.agg (c.cells sa ta sc tc), .slice a l.length cap] w fun e w' => e = .returned (.bool true) ∧ Below w.heap.size w w' := by
  have HSA := Lib.hid (show ∀ b off, 0 < c.syms.length → sa = some ⟨b, off, none⟩ → b < w.heap.size from fun b off h0 e => by
    obtain ⟨b', off', e', hl, _⟩ := hin.syms 0 h0
    rw [e] at e'; injection e' with e'; injection e' with e1 _ _; omega)
  have hb0 : Below w.heap.size w (w.alloc (.cells (c.cells sa ta sc tc) 27)) := (Below.refl _ _).alloc (Nat.le_refl _) _
  have HIN := Lib.hid (hin.below hb0)
  have HB := Lib.hid hb0
  have HX := Lib.hid (Blk.new w (c.cells sa ta sc tc) 27 w.heap.size rfl)
  have HM := Lib.hid (hm.below hb0)
  have HM0 := Lib.hid hm
  have HSQ := Lib.hid hs
  clear hin hm hs hb0
  go_enter Try.func3, Try.ntmps3
  go_upto_region 1 with fail
  generalize w.alloc (.cells (c.cells sa ta sc tc) 27) = W at HIN HB HX HM ⊢
  go_wp2_with (refine load_blk rfl 27 _ rfl _ rfl _ _ HX.out _ Try.underlying27 rfl (by kernel_rfl) ?_)
  refine (light_any c sa ta sc tc a cap l _ HM.out).mono ?_
  rintro e w1 ⟨⟨b, rfl, hlen⟩, hb1⟩
  replace HIN := Lib.hid (HIN.out.below hb1)
  replace HX := Lib.hid (HX.out.below hb1 HX.out.lt)
  replace HB := Lib.hid (HB.out.trans (hb1.mono HB.out.size))
  clear hb1 HM
  have HLEN := Lib.hid hlen
  clear hlen
  cases b with
  | false =>
    go_wp2_with fail
    refine (alive _).mono ?_
    rintro e w2 ⟨rfl, hb2⟩
    replace HB := Lib.hid (HB.out.trans (hb2.mono HB.out.size))
    clear hb2
    go_wp2
    go_ret
    exact ⟨rfl, HB.out⟩
  | true =>
    have hl := HLEN.out rfl
    go_wp2_with (refine load_blk rfl 27 _ rfl _ rfl _ _ HX.out _ Try.underlying27 rfl (by kernel_rfl) ?_)
    refine (new_any c sa ta sc tc _ HIN.out).mono ?_
    rintro e w2 ⟨hb2, hmade⟩
    have hw1 := HB.out.size
    replace HIN := Lib.hid (HIN.out.below hb2)
    replace HX := Lib.hid (HX.out.below hb2 HX.out.lt)
    replace HB := Lib.hid (HB.out.trans (hb2.mono HB.out.size))
    clear hb2
    rcases hmade with ⟨h0, P, L, rc, rfl, hP, hL, hp⟩ | ⟨h0, rfl⟩
    · have HPW := Lib.hid hp
      have hw2 := HB.out.size
      have hPl := hp.head.lt
      have hLl := hp.lt
      clear hp
      go_wp2_with (refine load_blk rfl 27 _ rfl _ rfl _ _ HX.out _ Try.underlying27 rfl (by kernel_rfl) ?_)
      refine (rnew_any c sa ta sc tc _ HIN.out).mono ?_
      rintro e w3 ⟨hb3, hmade⟩
      have HRB := Lib.hid hmade
      clear hmade
      replace HB := Lib.hid (HB.out.trans (hb3.mono HB.out.size))
      replace HPW := Lib.hid (HPW.out.below hb3)
      clear hb3 HX HIN
      obtain ⟨-, Q, M, qc, rfl, hQ, hM, hr⟩ | ⟨h1, -⟩ := HRB.out
      · have HBO := Lib.hid (show Both w w3 P L rc Q M qc c sa ta sc tc a l (c.syms.map fun _ => Kn.zero) 0 0 from ⟨HPW.out, hr, HB.out, HM0.out, by omega, by omega, by omega, by omega, by omega, by omega, by omega, by omega⟩)
        have HSA2 := Lib.hid (show ∀ b off, sa = some ⟨b, off, none⟩ → b < w.heap.size from fun b off e => HSA.out b off (by have := (few_of c h0).1; omega) e)
        clear hr HPW HB HRB h0 HSA HM0
        go_wp2_with fail
        go_loopw [9] (fun i wr => ∃ (k : Nat) (ks : List Kn) (seq tick : Int), k ≤ l.length ∧ i = .int .i64 k ∧ Both w wr P L rc Q M qc c sa ta sc tc a l ks seq tick ∧ 0 ≤ seq ∧ seq ≤ k) (fun i _ => l.length - (intOf i).toNat)
        case atStart => exact ⟨0, _, 0, 0, by omega, rfl, HBO.out, by omega, by omega⟩
        case round =>
          clear HBO
          obtain ⟨k, ks, seq, tick, hk, rfl, hbo, hs0, hs1⟩ := hrel
          have HBO := Lib.hid hbo
          by_cases hlt : k < l.length
          · obtain ⟨b, off, rfl, hbl, hrow⟩ := bothRow hbo k hlt
            clear hbo
            have HF := Lib.hid (fault_eq ks seq tick l[k] hs0 (by omega) (HSQ.out k hlt).1 (HSQ.out k hlt).2)
            have HFQ := Lib.hid (fault_seq ks seq tick (kOf ks l[k].sym) l[k] hs0 (by omega))
            generalize l[k] = m at hrow HF HFQ
            have hrow2 : ∀ (j : Nat) (v : Value), m.cells[j]? = some v → wr.cell? ⟨b, off + k * 9 + j, none⟩ = some v := fun j v hv => by rw [HBO.out.below.cell (p := ⟨b, _, none⟩) hbl]; exact hrow j v hv
            have m_kind : wr.cell? ⟨b, off + k * 9, none⟩ = some (.int .i64 m.kind) := hrow2 0 _ rfl
            have m_sym : wr.cell? ⟨b, off + k * 9 + 1, none⟩ = some (.int .i64 m.sym) := hrow2 1 _ rfl
            have m_seq : wr.cell? ⟨b, off + k * 9 + 2, none⟩ = some (.int .i64 m.seq) := hrow2 2 _ rfl
            have m_tick : wr.cell? ⟨b, off + k * 9 + 3, none⟩ = some (.int .i64 m.tick) := hrow2 3 _ rfl
            have m_id : wr.cell? ⟨b, off + k * 9 + 4, none⟩ = some (.int .i64 m.id) := hrow2 4 _ rfl
            have m_wth : wr.cell? ⟨b, off + k * 9 + 5, none⟩ = some (.int .i64 m.wth) := hrow2 5 _ rfl
            have m_price : wr.cell? ⟨b, off + k * 9 + 6, none⟩ = some (.int .i64 m.price) := hrow2 6 _ rfl
            have m_qty : wr.cell? ⟨b, off + k * 9 + 7, none⟩ = some (.int .i64 m.qty) := hrow2 7 _ rfl
            have m_code : wr.cell? ⟨b, off + k * 9 + 8, none⟩ = some (.int .i64 m.code) := hrow2 8 _ rfl
            have HKEEP := Lib.hid (fun (wx : World) (hb : Below w.heap.size w wx) => (show (fun w' => w'.cell? ⟨b, off + k * 9, none⟩ = some (.int .i64 m.kind) ∧ w'.cell? ⟨b, off + k * 9 + 1, none⟩ = some (.int .i64 m.sym) ∧ w'.cell? ⟨b, off + k * 9 + 2, none⟩ = some (.int .i64 m.seq) ∧ w'.cell? ⟨b, off + k * 9 + 3, none⟩ = some (.int .i64 m.tick) ∧ w'.cell? ⟨b, off + k * 9 + 4, none⟩ = some (.int .i64 m.id) ∧ w'.cell? ⟨b, off + k * 9 + 5, none⟩ = some (.int .i64 m.wth) ∧ w'.cell? ⟨b, off + k * 9 + 6, none⟩ = some (.int .i64 m.price) ∧ w'.cell? ⟨b, off + k * 9 + 7, none⟩ = some (.int .i64 m.qty) ∧ w'.cell? ⟨b, off + k * 9 + 8, none⟩ = some (.int .i64 m.code)) wx from by exact ⟨by rw [hb.cell (p := ⟨b, _, none⟩) hbl]; exact hrow 0 _ rfl, by rw [hb.cell (p := ⟨b, _, none⟩) hbl]; exact hrow 1 _ rfl, by rw [hb.cell (p := ⟨b, _, none⟩) hbl]; exact hrow 2 _ rfl, by rw [hb.cell (p := ⟨b, _, none⟩) hbl]; exact hrow 3 _ rfl, by rw [hb.cell (p := ⟨b, _, none⟩) hbl]; exact hrow 4 _ rfl, by rw [hb.cell (p := ⟨b, _, none⟩) hbl]; exact hrow 5 _ rfl, by rw [hb.cell (p := ⟨b, _, none⟩) hbl]; exact hrow 6 _ rfl, by rw [hb.cell (p := ⟨b, _, none⟩) hbl]; exact hrow 7 _ rfl, by rw [hb.cell (p := ⟨b, _, none⟩) hbl]; exact hrow 8 _ rfl⟩))
            clear hrow2 hrow
            have g0 : (0 : Int) ≤ (k : Int) := by omega
            have g1 : (k : Int) < (l.length : Int) := by omega
            have HB0 := Lib.hid HBO.out.drew.below
            have HBD := Lib.hid HBO.out.drew
            go_upto_region 12 with fail
            go_region_held3 (fun w' => w'.cell? ⟨b, off + k * 9, none⟩ = some (.int .i64 m.kind) ∧ w'.cell? ⟨b, off + k * 9 + 1, none⟩ = some (.int .i64 m.sym) ∧ w'.cell? ⟨b, off + k * 9 + 2, none⟩ = some (.int .i64 m.seq) ∧ w'.cell? ⟨b, off + k * 9 + 3, none⟩ = some (.int .i64 m.tick) ∧ w'.cell? ⟨b, off + k * 9 + 4, none⟩ = some (.int .i64 m.id) ∧ w'.cell? ⟨b, off + k * 9 + 5, none⟩ = some (.int .i64 m.wth) ∧ w'.cell? ⟨b, off + k * 9 + 6, none⟩ = some (.int .i64 m.price) ∧ w'.cell? ⟨b, off + k * 9 + 7, none⟩ = some (.int .i64 m.qty) ∧ w'.cell? ⟨b, off + k * 9 + 8, none⟩ = some (.int .i64 m.code)) (first | exact HKEEP.out _ HB3.out | exact HKEEP.out _ HB2.out | exact HKEEP.out _ HB0.out)
              (first
                | (go_at_call 11; refine (put_any P L rc c.syms ks seq tick m _ HBD.out.pw).mono ?_; rintro e w4 ⟨rfl, hc2, hp2⟩; have HRW := Lib.hid (both_rw HBD.out HSA2.out hc2); have HB2 := Lib.hid HRW.out.2; have HC2 := Lib.hid hc2; have HP2 := Lib.hid hp2; clear hc2 hp2)
                | (go_at_call 12; refine (rput_any Q M qc c sa ta sc tc ks seq tick m _ HRW.out.1).mono ?_; rintro e w5 ⟨rfl, hc3, hp3⟩; have HPUT := Lib.hid (both_put HBD.out HF.out HC2.out HP2.out hc3 hp3); have HB3 := Lib.hid (show Below w.heap.size w w5 from by have h := HPUT.out; unfold Both.Put at h; split at h <;> exact h.below); clear hc3 hp3; rw [HF.out]))
            rename_i hHeld
            clear hHeld
            obtain ⟨ks', seq', tick', HBN, hn0, hn1⟩ : ∃ (ks' : List Kn) (seq' tick' : Int), Hid (Both w w5 P L rc Q M qc c sa ta sc tc (some ⟨b, off, none⟩) l ks' seq' tick') ∧ 0 ≤ seq' ∧ seq' ≤ (k + 1 : Nat) := by
              have h := HPUT.out
              unfold Both.Put at h
              by_cases h0 : faultF ks seq tick (kOf ks m.sym) m = 0
              · rw [if_pos h0] at h; exact ⟨_, _, _, h, by have := HFQ.out h0; omega, by have := HFQ.out h0; omega⟩
              · rw [if_neg h0] at h; exact ⟨_, _, _, h, hs0, by omega⟩
            clear HPUT HP2 HC2 HRW HB2 HB3 HBD HB0 HKEEP HF HFQ HBO m_kind m_sym m_seq m_tick m_id m_wth m_price m_qty m_code
            generalize faultF ks seq tick (kOf ks m.sym) m = f
            obtain ⟨wo, rfl⟩ : ∃ wo : World, wo = wr := ⟨_, rfl⟩
            go_wp2_with fail
            go_loopw [10] (fun i wx => ∃ s : Int, -1 ≤ s ∧ s ≤ ks'.length + 1 ∧ i = .int .i64 s ∧ Both w wx P L rc Q M qc c sa ta sc tc (some ⟨b, off, none⟩) l ks' seq' tick') (fun i _ => (ks'.length + 1 - intOf i).toNat)
            case atStart => exact ⟨-1, by omega, by omega, rfl, HBN.out⟩
            case round =>
              clear HBN
              obtain ⟨s, hsl, hsh, rfl, hbo⟩ := hrel
              have HBO := Lib.hid hbo
              clear hbo
              have hfew := HBO.out.pw.few
              have q8 : wr.cell? ⟨Q, 8, none⟩ = some (.slice (some ⟨M, 0, none⟩) ks'.length qc) := HBO.out.rw.head.cell 8 rfl
              by_cases hle : s ≤ ks'.length
              · go_wp2_with fail
                refine (rof_any Q M qc c sa ta sc tc ks' seq' tick' s _ HBO.out.rw).mono ?_
                rintro e w6 ⟨rfl, hb6⟩
                have HB6 := Lib.hid (HBO.out.step hb6)
                clear hb6 q8
                go_upto_region 18 with (refine store_blk rfl 48 _ _ rfl w6.heap.size rfl Kn.zero.cells (knF ks' s).cells 48 (Blk.new _ _ _ _ rfl) rfl rfl (by kernel_rfl) (by simp [Kn.cells, Value.oneCell']) ?_)
                have hx := (Blk.new w6 Kn.zero.cells 48 w6.heap.size rfl).setCells (knF ks' s).cells rfl
                have hb' : Below w6.heap.size w6 (World.setCells (w6.alloc (.cells Kn.zero.cells 48)) w6.heap.size 0 (knF ks' s).cells.toList) := Blk.Below.setCells _ _ _ ((Below.refl _ _).alloc (Nat.le_refl _) _) (Nat.le_refl _)
                change Code.wp _ _ _ _ (World.setCells (w6.alloc (.cells Kn.zero.cells 48)) w6.heap.size 0 (knF ks' s).cells.toList)
                generalize World.setCells (w6.alloc (.cells Kn.zero.cells 48)) w6.heap.size 0 (knF ks' s).cells.toList = w7 at hx hb' ⊢
                have HX0 := Lib.hid hx
                have HX7 := Lib.hid hx.drew
                have HB7 := Lib.hid (HB6.out.step hb').drew
                clear hx hb' HB6
                have hPH := HB7.out.pw
                generalize hkk : knF ks' s = kk at HX0 HX7
                have HKK := Lib.hid hkk
                generalize w6.heap.size = B at HX0 HX7 ⊢
                have kk_phase : w7.cell? ⟨B, 0, none⟩ = some (.int .i64 kk.phase) := HX0.out.cell 0 rfl
                have kk_blo : w7.cell? ⟨B, 1, none⟩ = some (.int .i64 kk.blo) := HX0.out.cell 1 rfl
                have kk_bhi : w7.cell? ⟨B, 2, none⟩ = some (.int .i64 kk.bhi) := HX0.out.cell 2 rfl
                have kk_clo : w7.cell? ⟨B, 3, none⟩ = some (.int .i64 kk.clo) := HX0.out.cell 3 rfl
                have kk_chi : w7.cell? ⟨B, 4, none⟩ = some (.int .i64 kk.chi) := HX0.out.cell 4 rfl
                have kk_deadline : w7.cell? ⟨B, 5, none⟩ = some (.int .i64 kk.deadline) := HX0.out.cell 5 rfl
                have kk_t0 : w7.cell? ⟨B, 6, none⟩ = some (.int .i64 kk.t0) := HX0.out.cell 6 rfl
                have kk_t1 : w7.cell? ⟨B, 7, none⟩ = some (.int .i64 kk.t1) := HX0.out.cell 7 rfl
                have kk_t2 : w7.cell? ⟨B, 8, none⟩ = some (.int .i64 kk.t2) := HX0.out.cell 8 rfl
                have kk_t3 : w7.cell? ⟨B, 9, none⟩ = some (.int .i64 kk.t3) := HX0.out.cell 9 rfl
                have hq2 := neq_band
                have hq4 := neq_four
                have CPH := Lib.hid (fun wz h => phase_any P L rc c.syms ks' seq' tick' s wz h)
                have CBA := Lib.hid (fun wz h => band_any P L rc c.syms ks' seq' tick' s wz h)
                have CDE := Lib.hid (fun wz h => deadline_any P L rc c.syms ks' seq' tick' s wz h)
                have CTR := Lib.hid (fun wz h => trades_any P L rc c.syms ks' seq' tick' s wz h)
                rw [hkk] at CPH CBA CDE CTR
                clear hkk hPH
                go_region_held3 (fun w' => w'.cell? ⟨B, 0, none⟩ = some (.int .i64 kk.phase) ∧ w'.cell? ⟨B, 1, none⟩ = some (.int .i64 kk.blo) ∧ w'.cell? ⟨B, 2, none⟩ = some (.int .i64 kk.bhi) ∧ w'.cell? ⟨B, 3, none⟩ = some (.int .i64 kk.clo) ∧ w'.cell? ⟨B, 4, none⟩ = some (.int .i64 kk.chi) ∧ w'.cell? ⟨B, 5, none⟩ = some (.int .i64 kk.deadline) ∧ w'.cell? ⟨B, 6, none⟩ = some (.int .i64 kk.t0) ∧ w'.cell? ⟨B, 7, none⟩ = some (.int .i64 kk.t1) ∧ w'.cell? ⟨B, 8, none⟩ = some (.int .i64 kk.t2) ∧ w'.cell? ⟨B, 9, none⟩ = some (.int .i64 kk.t3)) (first | exact ⟨HX9.out.cell 0 rfl, HX9.out.cell 1 rfl, HX9.out.cell 2 rfl, HX9.out.cell 3 rfl, HX9.out.cell 4 rfl, HX9.out.cell 5 rfl, HX9.out.cell 6 rfl, HX9.out.cell 7 rfl, HX9.out.cell 8 rfl, HX9.out.cell 9 rfl⟩ | exact ⟨HX8.out.cell 0 rfl, HX8.out.cell 1 rfl, HX8.out.cell 2 rfl, HX8.out.cell 3 rfl, HX8.out.cell 4 rfl, HX8.out.cell 5 rfl, HX8.out.cell 6 rfl, HX8.out.cell 7 rfl, HX8.out.cell 8 rfl, HX8.out.cell 9 rfl⟩ | exact ⟨HX7.out.cell 0 rfl, HX7.out.cell 1 rfl, HX7.out.cell 2 rfl, HX7.out.cell 3 rfl, HX7.out.cell 4 rfl, HX7.out.cell 5 rfl, HX7.out.cell 6 rfl, HX7.out.cell 7 rfl, HX7.out.cell 8 rfl, HX7.out.cell 9 rfl⟩)
                  (first
                    | (go_at_call 14; refine (CPH.out _ HB7.out.pw).mono ?_; rintro e wz ⟨rfl, rfl⟩)
                    | (go_at_call 15; refine (CBA.out _ HB7.out.pw).mono ?_; rintro e w8 ⟨rfl, hb8⟩; have HB8 := Lib.hid (HB7.out.step hb8); have HX8 := Lib.hid (HX7.out.below hb8 HX7.out.lt); clear hb8)
                    | (go_at_call 16; refine (CDE.out _ HB8.out.pw).mono ?_; rintro e wz ⟨rfl, rfl⟩)
                    | (go_at_call 17; refine (CTR.out _ HB8.out.pw).mono ?_; rintro e w9 ⟨rfl, hb9⟩; have HB9 := Lib.hid (HB8.out.step hb9); have HX9 := Lib.hid (HX8.out.below hb9 HX8.out.lt); clear hb9))
                rename_i hHeld
                clear hHeld CPH CBA CDE CTR hq2 hq4 HX0 HX7 HX8 HX9 HB7 HB8 kk_phase kk_blo kk_bhi kk_clo kk_chi kk_deadline kk_t0 kk_t1 kk_t2 kk_t3
                go_wp2
                go_roundw
                case rel => exact ⟨s + 1, by omega, by omega, by go_num, HB9.out⟩
                case measure => simp [intOf]; omega
              · have hge : (ks'.length : Int) < s := by omega
                go_wp2
                go_roundw
                case rel => exact ⟨k + 1, ks', seq', tick', by omega, by go_num, HBO.out, hn0, hn1⟩
                case measure => simp [intOf]; omega
          · have g1 : (l.length : Int) ≤ (k : Int) := by omega
            clear hbo
            go_wp2_with fail
            refine (alive _).mono ?_
            rintro e w4 ⟨rfl, hb4⟩
            have HB4 := Lib.hid (HBO.out.step hb4).below
            clear hb4 HBO
            go_wp2
            go_ret
            exact ⟨rfl, HB4.out⟩
      · exact absurd h0 h1
    · go_wp2_with (refine load_blk rfl 27 _ rfl _ rfl _ _ HX.out _ Try.underlying27 rfl (by kernel_rfl) ?_)
      refine (rnew_any c sa ta sc tc _ HIN.out).mono ?_
      rintro e w3 ⟨hb3, hmade⟩
      replace HB := Lib.hid (HB.out.trans (hb3.mono HB.out.size))
      clear hb3 HX HIN
      rcases hmade with ⟨h1, -⟩ | ⟨h1, rfl⟩
      · exact absurd h1 h0
      have b0 : ((checkF c).1 != 0) = true := bne_iff_ne.2 h0
      clear h0 h1
      generalize (checkF c).1 = f at b0 ⊢
      go_wp2_with fail
      refine (alive _).mono ?_
      rintro e w4 ⟨rfl, hb4⟩
      replace HB := Lib.hid (HB.out.trans (hb4.mono HB.out.size))
      clear hb4
      go_wp2
      go_ret
      exact ⟨rfl, HB.out⟩
end Go.Proofs.Ytggkhnmhhifniaa.Watch
