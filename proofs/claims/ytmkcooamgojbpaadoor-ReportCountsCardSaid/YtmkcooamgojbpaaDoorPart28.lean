/- Parts of the proof: CountsW. -/
import Derived.Test.YtmkcooamgojbpaaDoorPart16
import Derived.Test.YtmkcooamgojbpaaDoorPart17
import Derived.Test.YtmkcooamgojbpaaDoorPart27

/- damperlaw36.ReportCounts: the walk. -/
namespace Go.Proofs.YtmkcooamgojbpaaDoor.Counts
open Go.RowKit Go.Proofs.YtmkcooamgojbpaaDoor.Kit Go.Proofs.YtmkcooamgojbpaaDoor.Blk Go.Proofs.YtmkcooamgojbpaaDoor.Msgs Go.Proofs.YtmkcooamgojbpaaDoor.Octets Go.Proofs.YtmkcooamgojbpaaDoor.Phases Go.Proofs.YtmkcooamgojbpaaDoor.Reports Go.Proofs.YtmkcooamgojbpaaDoor.Lines
attribute [local go_sem ↓] Go.wp_at_zero Go.wp_at_succ
set_option linter.unusedVariables false

instance (m : Msg) : Decidable (SmallM m) := by unfold SmallM; exact inferInstance
def smallF (l : List Msg) : Bool := decide (l.length ≤ 120) && l.all fun m => decide (SmallM m)
theorem small_true {l : List Msg} (h : smallF l = true) : l.length ≤ 120 ∧ ∀ m ∈ l, SmallM m := by
  unfold smallF at h
  simp only [Bool.and_eq_true, decide_eq_true_eq, List.all_eq_true] at h
  exact h
theorem small_false {l : List Msg} {k : Nat} (hk : k < l.length) (h : ¬ SmallM l[k]) : smallF l = false := by
  cases e : smallF l with
  | false => rfl
  | true => exact absurd ((small_true e).2 _ (List.getElem_mem hk)) h
set_option maxRecDepth 20000 in
theorem small_any (a : Option Addr) (cap : Nat) (l : List Msg) (w : World) (hr : MsgRow w a l) (hm : l.length ≤ maxLen) : Calls Tryd.prog 56 #[.slice a l.length cap] w fun e w' => e = .returned (.bool (smallF l)) ∧ w = w' := by
  have HR := Lib.hid (fun k hk => msgRow_at hr k hk)
  clear hr
  unfold maxLen at hm
  by_cases h : l.length ≤ 120
  · have g : ¬ (120 : Int) < (l.length : Int) := by omega
    go_enter Tryd.func56, Tryd.ntmps56
    go_wp2_with fail
    go_loop [3] (fun i => ∃ k : Nat, k ≤ l.length ∧ i = .int .i64 k ∧ ∀ j, (hj : j < l.length) → j < k → SmallM l[j]) (fun i => l.length - (intOf i).toNat)
    case atStart => exact ⟨0, by omega, rfl, fun j _ h => absurd h (by omega)⟩
    case round =>
      obtain ⟨k, hk, rfl, hall⟩ := hrel
      have HALL := Lib.hid hall
      clear hall
      by_cases hlt : k < l.length
      · obtain ⟨b, off, rfl, hbl, hcell⟩ := HR.out k hlt
        have c7 : w.cell? ⟨b, off + k * 9 + 7, none⟩ = some (.int .i64 l[k].qty) := hcell 7 _ rfl
        have g0 : (0 : Int) ≤ (k : Int) := by omega
        have g1 : (k : Int) < (l.length : Int) := by omega
        have HF := Lib.hid (fun h => small_false hlt h)
        have HS := Lib.hid (show SmallM l[k] → ∀ j, (hj : j < l.length) → j < k + 1 → SmallM l[j] from fun h j hj hjk => by
          by_cases h3 : j < k
          · exact HALL.out j hj h3
          · obtain rfl : j = k := by omega
            exact h)
        have HQ := Lib.hid (show SmallM l[k] ↔ (-36028797018963968 ≤ l[k].qty ∧ l[k].qty ≤ 36028797018963968) from Iff.rfl)
        clear hcell
        generalize hq : l[k].qty = q at c7 HQ
        clear hq
        by_cases h1 : q < -36028797018963968
        · have e1 : decide (q < -36028797018963968) = true := by simpa using h1
          have HE := Lib.hid (HF.out (fun h => by have := (HQ.out.1 h).1; omega))
          clear h1
          go_wp2_with fail
          go_ret
          exact ⟨by rw [HE.out]; rfl, rfl⟩
        · have e1 : decide (q < -36028797018963968) = false := by simpa using h1
          by_cases h2 : 36028797018963968 < q
          · have e2 : decide (36028797018963968 < q) = true := by simpa using h2
            have HE := Lib.hid (HF.out (fun h => by have := (HQ.out.1 h).2; omega))
            clear h1 h2
            go_wp2_with fail
            go_ret
            exact ⟨by rw [HE.out]; rfl, rfl⟩
          · have e2 : decide (36028797018963968 < q) = false := by simpa using h2
            have HE := Lib.hid (HS.out (HQ.out.2 ⟨by omega, by omega⟩))
            clear h1 h2
            go_wp2_with fail
            go_round
            case rel => exact ⟨k + 1, by omega, by go_num, HE.out⟩
            case measure => simp [intOf]; omega
      · have HE := Lib.hid (show smallF l = true by
          unfold smallF
          simp only [Bool.and_eq_true, decide_eq_true_eq, List.all_eq_true]
          refine ⟨h, fun m hm => ?_⟩
          obtain ⟨i, hi, rfl⟩ := List.getElem_of_mem hm
          exact HALL.out i hi (by omega))
        have g1 : ¬ (k : Int) < (l.length : Int) := by omega
        go_wp2_with fail
        go_ret
        exact ⟨by rw [HE.out]; rfl, rfl⟩
  · have g : (120 : Int) < (l.length : Int) := by omega
    have HE := Lib.hid (show smallF l = false by unfold smallF; rw [decide_eq_false h]; rfl)
    go_enter Tryd.func56, Tryd.ntmps56
    go_wp2_with fail
    go_ret
    exact ⟨by rw [HE.out]; rfl, rfl⟩
theorem eq_i64 (d : Nat) (n : Int) (w : World) : (Op.equalIn (d + 1) 2 (.int .i64 n) (.int .i64 n)).run Tryd.prog w = .ok true w := by
  simp [Op.equalIn, run_underlying Tryd.underlying2]
theorem cI64 : Tryd.prog.cellsOf 2 = 1 := by kernel_rfl
theorem eq_six (s : Six) (w : World) : (Op.equalIn 10000 87 (.agg s.cells) (.agg s.cells)).run Tryd.prog w = .ok true w := by
  obtain ⟨i, hi⟩ : ∃ i, Tryd.prog.info? 2 = some i := Option.isSome_iff_exists.1 (by kernel_rfl)
  have h := run_equalIn_array (P := Tryd.prog) (w := w) 9999 s.cells s.cells Tryd.underlying87 hi
  have he : ∀ (n : Int) (w : World), (Op.equalIn 9999 2 (.int .i64 n) (.int .i64 n)).run Tryd.prog w = .ok true w := fun n w => eq_i64 9998 n w
  rw [cI64] at h
  simp only [Nat.reduceAdd] at h
  rw [h]
  unfold Six.cells
  simp [Op.eqItems, List.range, List.range.loop, part, he]
theorem msg_below {w w' : World} {a : Option Addr} {l : List Msg} (h : MsgRow w a l) (hb : Below w.heap.size w w') : MsgRow w' a l := h.below hb (fun _ _ _ h => h)

set_option maxRecDepth 20000 in
set_option maxHeartbeats 8000000 in
theorem counts_law (a : Option Addr) (cap : Nat) (l : List Msg) (sym lim : Int) (w : World) (hr : MsgRow w a l) (hl : l.length ≤ maxLen) (hw : (Lit.int .i64 lim).wf = true) (hm : MX w) :
    Calls Tryd.prog 15 #[.slice a l.length cap, .int .i64 sym, .int .i64 lim] w (AliveIs w) := by
  have HLIM := Lib.hid (show lim ≤ 9223372036854775807 by
    have h2 : decide (IntKind.i64.min ≤ lim) && decide (lim ≤ IntKind.i64.max) := hw
    rw [Bool.and_eq_true] at h2
    have h3 : lim ≤ IntKind.i64.max := of_decide_eq_true h2.2
    have e : IntKind.i64.max = 9223372036854775807 := by decide
    omega)
  have HSM := Lib.hid (small_any a cap l w hr hl)
  have HM := Lib.hid hm
  have HR := Lib.hid hr
  clear hm hr hw
  unfold maxLen at hl
  cases hs : smallF l with
  | false =>
    rw [hs] at HSM
    go_enter Tryd.func15, Tryd.ntmps15
    go_wp2_with fail
    refine HSM.out.mono ?_
    rintro e w1 ⟨rfl, rfl⟩
    go_wp2_with fail
    refine (alive_any _ HM.out).mono ?_
    rintro e wz ⟨rfl, hbz⟩
    have HBZ := Lib.hid hbz
    clear hbz
    go_wp2_with fail
    go_ret
    exact ⟨rfl, HBZ.out⟩
  | true =>
    rw [hs] at HSM
    obtain ⟨hl2, hq⟩ := small_true hs
    have HQ := Lib.hid hq
    clear hs hq
    go_enter Tryd.func15, Tryd.ntmps15
    go_wp2_with fail
    refine HSM.out.mono ?_
    rintro e w1 ⟨rfl, rfl⟩
    go_wp2_with fail
    refine (counts_any a cap l sym w HR.out hl2 HQ.out).mono ?_
    rintro e w1 ⟨v, rfl, hc1, hb1⟩
    have HB1 := Lib.hid hb1
    have HC1 := Lib.hid hc1
    clear hb1 hc1 HSM
    go_wp2_with fail
    refine (rcounts_any a cap l sym w1 (msg_below HR.out HB1.out) hl2 HQ.out).mono ?_
    rintro e w2 ⟨v2, rfl, hc2, hb2⟩
    have HB2 := Lib.hid (HB1.out.trans (hb2.mono HB1.out.size))
    replace HC1 := Lib.hid (HC1.out.below hb2)
    have HC2 := Lib.hid hc2
    clear hb2 hc2 HB1
    generalize (cntS sym l).map clampC = S at HC1 HC2
    obtain ⟨a1, c1, rfl, k1, k2, h1⟩ := HC1.out
    unfold maxLen at k2
    have hSl : (S.length : Int) ≤ 9223372036854775807 := by omega
    obtain ⟨a2, c2, rfl, -, -, h2⟩ := HC2.out
    have H1 := Lib.hid h1
    have H2 := Lib.hid h2
    clear h1 h2 HC1 HC2
    go_wp2_with fail
    go_loopw [9] (fun i wr => ∃ k : Nat, k ≤ S.length ∧ i = .int .i64 k ∧ Below w2.heap.size w2 wr) (fun i _ => S.length - (intOf i).toNat)
    case atStart => exact ⟨0, by omega, rfl, Below.refl _ _⟩
    case round =>
      obtain ⟨k, hk, rfl, hb⟩ := hrel
      have HB := Lib.hid hb
      by_cases hlt : k < S.length
      · obtain ⟨p, rfl, -, hp2, hpc⟩ := H1.out k hlt
        obtain ⟨q, rfl, -, hq2, hqc⟩ := H2.out k hlt
        have pc : ∀ (j : Nat) (u : Value), S[k].cells[j]? = some u → wr.cell? ⟨p, k * 4 + j, none⟩ = some u := fun j u hu => by rw [hb.cell (p := ⟨p, _, none⟩) hp2]; exact hpc j u hu
        have qc : ∀ (j : Nat) (u : Value), S[k].cells[j]? = some u → wr.cell? ⟨q, k * 4 + j, none⟩ = some u := fun j u hu => by rw [hb.cell (p := ⟨q, _, none⟩) hq2]; exact hqc j u hu
        have x0 : wr.cell? ⟨p, k * 4, none⟩ = some (.int .i64 S[k].kind) := pc 0 _ rfl
        have x1 : wr.cell? ⟨p, k * 4 + 1, none⟩ = some (.int .i64 S[k].code) := pc 1 _ rfl
        have x2 : wr.cell? ⟨p, k * 4 + 2, none⟩ = some (.int .i64 S[k].many) := pc 2 _ rfl
        have x3 : wr.cell? ⟨p, k * 4 + 3, none⟩ = some (.int .i64 S[k].qty) := pc 3 _ rfl
        have y0 : wr.cell? ⟨q, k * 4, none⟩ = some (.int .i64 S[k].kind) := qc 0 _ rfl
        have y1 : wr.cell? ⟨q, k * 4 + 1, none⟩ = some (.int .i64 S[k].code) := qc 1 _ rfl
        have y2 : wr.cell? ⟨q, k * 4 + 2, none⟩ = some (.int .i64 S[k].many) := qc 2 _ rfl
        have y3 : wr.cell? ⟨q, k * 4 + 3, none⟩ = some (.int .i64 S[k].qty) := qc 3 _ rfl
        have g0 : (0 : Int) ≤ (k : Int) := by omega
        have g1 : (k : Int) < (S.length : Int) := by omega
        have HLT := Lib.hid hlt
        clear pc qc hpc hqc hb
        go_wp2_with fail
        go_quiet (fail)
        have HB3 := Lib.hid (HB.out.drewN nq)
        generalize wr.drewN nq = w3 at HB3 ⊢
        go_wp2_with fail
        go_roundw
        case rel => exact ⟨k + 1, HLT.out, by go_num, HB3.out⟩
        case measure => have := HLT.out; simp [intOf]; omega
      · have g1 : ¬ (k : Int) < (S.length : Int) := by omega
        have HBW := Lib.hid (HB2.out.trans (hb.mono HB2.out.size))
        have heq : ∀ W, (Op.equalIn 10000 87 (.agg (phasesF l sym lim).cells) (.agg (phasesF l sym lim).cells)).run Tryd.prog W = .ok true W := fun W => eq_six _ W
        have HP1 := Lib.hid (phases_any a cap l sym lim wr (msg_below HR.out HBW.out) hl2 HLIM.out)
        have HP2 := Lib.hid (fun W hW => rphases_any a cap l sym lim W hW hl2 HLIM.out)
        unfold PhasesIs at HP1 HP2
        generalize (phasesF l sym lim).cells = X at heq HP1 HP2
        clear hb
        go_wp2_with fail
        refine HP1.out.mono ?_
        rintro e w4 ⟨rfl, hb4⟩
        have HB4 := Lib.hid (HBW.out.trans (hb4.mono HBW.out.size))
        clear hb4 HP1
        go_wp2_with fail
        refine (HP2.out _ (msg_below HR.out HB4.out)).mono ?_
        rintro e w5 ⟨rfl, hb5⟩
        have HB5 := Lib.hid (HB4.out.trans (hb5.mono HB4.out.size))
        clear hb5 HP2
        go_wp2_with fail
        refine (alive_any _ (HM.out.below (n := 0) HB5.out)).mono ?_
        rintro e wz ⟨rfl, hbz⟩
        have HBZ := Lib.hid (HB5.out.trans (hbz.mono HB5.out.size))
        clear hbz
        go_wp2_with fail
        go_ret
        exact ⟨rfl, HBZ.out⟩
end Go.Proofs.YtmkcooamgojbpaaDoor.Counts
