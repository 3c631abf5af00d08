/- Parts of the proof: ShRow. -/
import Derived.Test.YtmkcooamgojbpaaGreatDoorPart26
import Derived.Test.YtmkcooamgojbpaaGreatDoorPart22
import Derived.Test.YtmkcooamgojbpaaGreatDoorPart7
import Derived.Test.YtmkcooamgojbpaaGreatDoorPart30
import Derived.Test.YtmkcooamgojbpaaGreatDoorPart17

/- sheet.Row: the row of a line. -/
namespace Go.Proofs.YtmkcooamgojbpaaGreatDoor.Sheet
open Go.RowKit Go.Proofs.YtmkcooamgojbpaaGreatDoor.Kit Go.Proofs.YtmkcooamgojbpaaGreatDoor.Blk Go.Proofs.YtmkcooamgojbpaaGreatDoor.Words Go.Proofs.YtmkcooamgojbpaaGreatDoor.Octets Go.Proofs.YtmkcooamgojbpaaGreatDoor.Lines Go.Proofs.YtmkcooamgojbpaaGreatDoor.Dec Go.Proofs.YtmkcooamgojbpaaGreatDoor.Symbol
attribute [local go_sem ↓] Go.wp_at_zero Go.wp_at_succ
set_option linter.unusedVariables false

/-- A line's first word is "row". -/
def pRow : Txt := [114, 111, 119, 32]
theorem prow_yes (t : Txt) : Lib.hasPrefix (wRow ++ 32 :: t) pRow = true ∧ Lib.trimPrefix (wRow ++ 32 :: t) pRow = t := by
  have h : Lib.hasPrefix (wRow ++ 32 :: t) pRow = true := by simp [Lib.hasPrefix, wRow, pRow]
  refine ⟨h, ?_⟩
  unfold Lib.trimPrefix
  rw [if_pos h]
  rfl
theorem prow_no {l : Txt} (h : ∀ t, l ≠ wRow ++ 32 :: t) : Lib.hasPrefix l pRow = false ∧ Lib.trimPrefix l pRow = l := by
  have e : Lib.hasPrefix l pRow = false := by
    cases e : Lib.hasPrefix l pRow with
    | false => rfl
    | true =>
      obtain ⟨t, ht⟩ := List.isPrefixOf_iff_prefix.1 (show pRow.isPrefixOf l = true from e)
      exact absurd ht.symm (h t)
  refine ⟨e, ?_⟩
  unfold Lib.trimPrefix
  rw [if_neg (by rw [e]; decide)]
theorem trim_row (l : Txt) (w : World) : Calls Tryz.prog 49 #[.string (strB l), .string ⟨#[114, 111, 119, 32]⟩] w fun e w' => e = .returned (.string (strB (Lib.trimPrefix l pRow))) ∧ w = w' := by
  have h := Shelf.strings_TrimPrefix (strB l) ⟨#[114, 111, 119, 32]⟩ w
  rw [strB_list] at h
  exact h.mono fun _ _ h => ⟨h.1, h.2.symm⟩
theorem has_row (l : Txt) (w : World) : Calls Tryz.prog 51 #[.string (strB l), .string ⟨#[114, 111, 119, 32]⟩] w fun e w' => e = .returned (.bool (Lib.hasPrefix l pRow)) ∧ w = w' := by
  have h := Shelf.strings_HasPrefix (strB l) ⟨#[114, 111, 119, 32]⟩ w
  rw [strB_list] at h
  exact h.mono fun _ _ h => ⟨h.1, h.2.symm⟩
theorem phaseL_at (k : Nat) (h : k < 3) : phaseL.getD k ByteArray.empty = strB (phF k) := by
  have : k = 0 ∨ k = 1 ∨ k = 2 := by omega
  rcases this with rfl | rfl | rfl <;> rfl
theorem strB_inj {a b : Txt} (h : strB a = strB b) : a = b := by rw [← strB_list a, h, strB_list]
/-- The place of a phase's word. -/
theorem phase_idx (p : Txt) : Lib.idxOfS (phaseL.take 3) (strB p) = (phaseI p).getD (-1) := by
  by_cases h : ∃ k, k < 3 ∧ phF k = p
  · obtain ⟨k, hk, rfl⟩ := h
    rw [phase_hit hk rfl]
    refine (Lib.idxOfS_hit phaseL 3 k _ hk (by decide) (phaseL_at k hk) (fun j hj he => ?_))
    rw [phaseL_at j (by omega)] at he
    have e := strB_inj he
    have h1 := phase_hit (c := phF k) (show j < 3 by omega) e
    rw [phase_hit hk rfl] at h1
    injection h1 with h1
    omega
  · have hm : ∀ k, k < 3 → phF k ≠ p := fun k hk e => h ⟨k, hk, e⟩
    rw [phase_miss hm]
    refine Lib.idxOfS_miss phaseL 3 _ (fun j hj he => ?_)
    rw [phaseL_at j hj] at he
    exact hm j hj (strB_inj he)
theorem index_phase (B c : Nat) (p : Txt) (w : World) (hb : Blk w B phaseA 68) : Calls Tryz.prog 53 #[.slice (some ⟨B, 0, none⟩) 3 c, .string (strB p)] w fun e w' => e = .returned (.int .i64 ((phaseI p).getD (-1))) ∧ w = w' := by
  have h := Shelf.slices_Index_string B 0 3 c phaseL (strB p) w (by decide) (by decide) (fun j hj => by
    have hj : j < 3 := hj
    rw [Nat.zero_add]
    have : j = 0 ∨ j = 1 ∨ j = 2 := by omega
    rcases this with rfl | rfl | rfl <;> exact hb.cell _ rfl)
  rw [phase_idx] at h
  exact h.mono fun _ _ h => ⟨h.1, h.2.symm⟩
def RowE (line : Txt) (S : Nat) (b : Bool) (W : World) : Prop := (b = false ∧ rowF line = none) ∨ ∃ r, b = true ∧ rowF line = some r ∧ Blk W S (rowC r) 40
def RowR (line : Txt) (S : Nat) (w : World) (b : Bool) (W : World) : Prop := Chg w.heap.size S w W ∧ RowE line S b W
theorem plain_row (r : Int × Int) : PlainC (rowC r) := fun j u hu => by
  have hj : j < 2 := (Array.getElem?_eq_some_iff.1 hu).1
  refine .inl ?_
  have : j = 0 ∨ j = 1 := by omega
  rcases this with rfl | rfl <;> (injection hu with hu; exact ⟨_, hu.symm⟩)
set_option maxRecDepth 20000 in
set_option maxHeartbeats 4000000 in
theorem row1_any (line : Txt) (hl : line.length ≤ 90000) (S L : Nat) (r : Int × Int) (w : World) (hm : MX w) (hS : Blk w S (rowC r) 40) (hL : w.cell? ⟨L, 0, none⟩ = some (.string (strB line))) :
    Calls Tryz.prog 47 #[.pointer (some ⟨L, 0, none⟩), .pointer (some ⟨S, 0, none⟩)] w fun e W => (e = .returned (.tuple #[]) ∧ RowR line S w true W) ∨ (e = badE ∧ RowR line S w false W) := by
  have HM := Lib.hid hm
  have HS := Lib.hid hS
  have HTP := Lib.hid (trim_row line w)
  have HLN := Lib.hid hl
  by_cases hp : ∃ t, line = wRow ++ 32 :: t
  · obtain ⟨t, ht⟩ := hp
    obtain ⟨p1, p2⟩ := prow_yes t
    rw [← ht] at p1 p2
    rw [p2] at HTP
    have htl : t.length ≤ 90000 := by
      have := congrArg List.length ht
      simp [wRow] at this
      omega
    rcases part_at 32 t with hno | ⟨a, p, ha, htp⟩
    · have HN := Lib.hid (show rowF line = none by rw [ht]; exact row_one hno)
      have HCU := Lib.hid (cut_any t 32 w hm (by omega))
      rw [cut_none hno] at HCU
      clear hm hS ht hl p1 p2 hno
      go_enter Tryz.func47, Tryz.ntmps47
      go_wp2_with fail
      refine HTP.out.mono ?_
      rintro e w1 ⟨rfl, rfl⟩
      go_wp2_with fail
      refine HCU.out.mono ?_
      rintro e w2 ⟨rfl, n, rfl⟩
      have HC := Lib.hid (show Chg w.heap.size S w (w.drewN n) from (Chg.refl _ _ _).step ((Below.refl _ _).drewN n))
      go_wp2_with fail
      with_reducible refine (must_false _).mono ?_
      rintro e w9 ⟨rfl, rfl⟩
      go_wp2_with fail
      exact ⟨rfl, .inr ⟨rfl, HC.out, .inl ⟨rfl, HN.out⟩⟩⟩
    · have HCU := Lib.hid (cut_any t 32 w hm (by omega))
      rw [htp, cut_at ha] at HCU
      subst htp
      have HRW := Lib.hid (show rowF line = if posW a = true then (phaseI p).map (fun k => (valW a, k)) else none by rw [ht]; exact row_two ha)
      have HPF := Lib.hid (fun W => has_row line W)
      rw [p1] at HPF
      have HA := Lib.hid ha
      have hal : a.length ≤ 90000 := by simp at htl; omega
      have HAL := Lib.hid (show (wRow ++ 32 :: a).length ≤ 100000 by simp [wRow]; omega)
      clear hm hS ht hl p1 p2 ha htl
      have z1 : (strB a).size = a.length := strB_size a
      have z2 : (⟨#[114, 111, 119, 32]⟩ : ByteArray).size = 4 := rfl
      have hcat : (⟨#[114, 111, 119, 32]⟩ : ByteArray) ++ strB a = strB (wRow ++ 32 :: a) := strB_app [114, 111, 119, 32] a
      have HCAT := Lib.hid hcat
      have hL2 : ∀ n, (w.drewN n).cell? ⟨L, 0, none⟩ = some (.string (strB line)) := fun n => hL
      go_enter Tryz.func47, Tryz.ntmps47
      go_wp2_with fail
      refine HTP.out.mono ?_
      rintro e w1 ⟨rfl, rfl⟩
      go_wp2_with fail
      refine HCU.out.mono ?_
      rintro e w2 ⟨rfl, n, rfl⟩
      have HC := Lib.hid (show Chg w.heap.size S w (w.drewN n) from (Chg.refl _ _ _).step ((Below.refl _ _).drewN n))
      have HS2 := Lib.hid (HS.out.drewN n)
      have HM2 := Lib.hid (show MX (w.drewN n) from HM.out)
      go_wp2_with fail
      refine (HPF.out _).mono ?_
      rintro e w3 ⟨rfl, rfl⟩
      go_wp2_with fail
      with_reducible refine (must_true _).mono ?_
      rintro e w9 ⟨rfl, rfl⟩
      clear HTP HCU HPF hL2 hL HM HS
      generalize w.drewN n = w1 at HC HS2 HM2 ⊢
      have HB3 := Lib.hid ((Below.refl w1.heap.size w1).alloc (Nat.le_refl _) (.cells #[.pointer (some ⟨S, 0, none⟩)] 101))
      have HNB := Lib.hid (Blk.new w1 #[.pointer (some ⟨S, 0, none⟩)] 101 w1.heap.size rfl)
      have HLG := Lib.hid (longs_any w1.heap.size 0 1 [⟨S, 0, none⟩] (by simp) (w1.alloc (.cells #[.pointer (some ⟨S, 0, none⟩)] 101)) (by simp) (fun j hj => by
        obtain rfl : j = 0 := by simpa using hj
        exact HNB.out.cell 0 rfl))
      go_wp2_with fail
      refine HLG.out.mono ?_
      rintro e w3 ⟨v, rfl, hrow⟩
      have HS3 := Lib.hid ((HS2.out.below HB3.out HS2.out.lt).below hrow.bel (by simp; have := HS2.out.lt; omega))
      have HC3 := Lib.hid ((HC.out.step (HB3.out.mono HC.out.size)).step (hrow.bel.mono (by simp; have := HC.out.size; omega)))
      have HM3 := Lib.hid ((HM2.out.below (n := 0) HB3.out).below (n := 0) hrow.bel)
      have HRD := Lib.hid (read_any wRow (wRow ++ 32 :: a) HAL.out S (rowC r) 40 [(true, 0)] v w3 HM3.out HS3.out (plain_row r) (by
        intro y hy
        obtain rfl : y = (true, 0) := by simpa using hy
        exact ⟨_, rfl⟩) (by decide) (by decide) (hrow.at (by simp)))
      have HPR := Lib.hid (part_row HA.out)
      obtain ⟨g, cp, rfl, -, -⟩ := World.ownsRow.form hrow.row (by simp)
      clear hrow HB3 HNB HLG HS2 HC HM2 hcat
      have hcat := HCAT.out
      have g1 : ¬ 9223372036854775807 < (⟨#[114, 111, 119, 32]⟩ : ByteArray).size + (strB a).size := by rw [z1, z2]; omega
      go_wp2_with fail
      refine HRD.out.mono ?_
      rw [show [(true, 0)].length = 1 from rfl, HPR.out]
      clear HRD HCAT hcat g1
      by_cases hpos : posW a = true
      · rw [if_pos hpos]
        have HRW2 := Lib.hid (show rowF line = (phaseI p).map (fun k => (valW a, k)) by rw [HRW.out, if_pos hpos])
        rintro e w4 ⟨hc4, ⟨ho, rfl⟩ | ⟨ns, ho, rfl, hb⟩⟩
        · cases ho
        injection ho with ho
        subst ho
        have HS4 := Lib.hid (show Blk w4 S #[.int .i64 (valW a), .int .i64 r.2] 40 from hb)
        have HC4 := Lib.hid (HC3.out.trans (hc4.mono HC3.out.size))
        clear hc4 hb HS3 HC3 hpos
        generalize valW a = m at HS4 HRW2
        go_wp2_with fail
        refine (phases_any w4).mono ?_
        rintro e w5 ⟨rfl, hb5⟩
        have HS5 := Lib.hid ((HS4.out.below hb5 HS4.out.lt).old (.cells phaseA 68))
        have HC5 := Lib.hid ((HC4.out.step (hb5.mono HC4.out.size)).alloc (Nat.le_trans HC4.out.size hb5.size) (.cells phaseA 68))
        have HX5 := Lib.hid (Blk.new w5 phaseA 68 w5.heap.size rfl)
        have HNE := Lib.hid (show S ≠ w5.heap.size from by have := HS4.out.lt; have := hb5.size; omega)
        clear hb5 HS4 HC4
        unfold phaseA
        go_upto_region 4 with fail
        change Code.wp _ _ _ _ (w5.alloc (.cells phaseA 68))
        generalize w5.alloc (.cells phaseA 68) = w6 at HS5 HC5 HX5 ⊢
        have HIX := Lib.hid (fun c => index_phase w5.heap.size c p w6 HX5.out)
        go_wp2_with fail
        refine (HIX.out _).mono ?_
        rintro e w7 ⟨rfl, rfl⟩
        have c1 : w6.cell? ⟨S, 1, none⟩ = some (.int .i64 r.2) := HS5.out.cell 1 rfl
        have f1 := HS5.out.free 1
        cases hph : phaseI p with
        | none =>
          have HN := Lib.hid (show rowF line = none by rw [HRW2.out, hph]; rfl)
          have HC7 := Lib.hid (show Chg w.heap.size S w (w6.setCell ⟨S, 1, none⟩ (.int .i64 (-1))) from HC5.out.setCell _ _ (.inl rfl))
          simp only [Option.getD_none]
          clear hph HIX HX5
          go_wp2_with fail
          with_reducible refine (must_false _).mono ?_
          rintro e w9 ⟨rfl, rfl⟩
          go_wp2_with fail
          exact ⟨rfl, .inr ⟨rfl, HC7.out, .inl ⟨rfl, HN.out⟩⟩⟩
        | some k =>
          have HN := Lib.hid (show rowF line = some (m, k) by rw [HRW2.out, hph]; rfl)
          have HC7 := Lib.hid (show Chg w.heap.size S w (w6.setCell ⟨S, 1, none⟩ (.int .i64 k)) from HC5.out.setCell _ _ (.inl rfl))
          have HS7 := Lib.hid (show Blk (w6.setCell ⟨S, 1, none⟩ (.int .i64 k)) S (rowC (m, k)) 40 from HS5.out.set 1 _)
          have hk0 : decide (0 ≤ k) = true := by
            have := T_phase hph
            unfold phaseI at hph
            split at hph
            · injection hph with h; simp; omega
            · split at hph
              · injection hph with h; simp; omega
              · split at hph
                · injection hph with h; simp; omega
                · cases hph
          simp only [Option.getD_some]
          clear hph HIX HX5
          go_wp2_with fail
          with_reducible refine (must_true _).mono ?_
          rintro e w9 ⟨rfl, rfl⟩
          go_wp2_with fail
          go_end0
          exact .inl ⟨rfl, HC7.out, .inr ⟨_, rfl, HN.out, HS7.out⟩⟩
      · rw [if_neg hpos]
        have HN := Lib.hid (show rowF line = none by rw [HRW.out, if_neg hpos])
        rintro e w4 ⟨hc4, ⟨-, rfl⟩ | ⟨ns, ho, rfl, hb⟩⟩
        · have HC4 := Lib.hid (HC3.out.trans (hc4.mono HC3.out.size))
          clear hc4 hpos
          go_wp2_with fail
          exact ⟨rfl, .inr ⟨rfl, HC4.out, .inl ⟨rfl, HN.out⟩⟩⟩
        · cases ho
  · have hp' : ∀ t, line ≠ wRow ++ 32 :: t := fun t h => hp ⟨t, h⟩
    obtain ⟨p1, p2⟩ := prow_no hp'
    have HN := Lib.hid (row_no hp')
    rw [p2] at HTP
    have HCU := Lib.hid (cut_any line 32 w hm (by omega))
    have HPF := Lib.hid (fun W => has_row line W)
    rw [p1] at HPF
    clear hm hS hp hp' hl p1 p2
    generalize Lib.cut line [32] = cc at HCU
    obtain ⟨c1, c2, is⟩ := cc
    go_enter Tryz.func47, Tryz.ntmps47
    go_wp2_with fail
    refine HTP.out.mono ?_
    rintro e w1 ⟨rfl, rfl⟩
    go_wp2_with fail
    refine HCU.out.mono ?_
    rintro e w2 ⟨rfl, n, rfl⟩
    have HC := Lib.hid (show Chg w.heap.size S w (w.drewN n) from (Chg.refl _ _ _).step ((Below.refl _ _).drewN n))
    cases is with
    | false =>
      go_wp2_with fail
      with_reducible refine (must_false _).mono ?_
      rintro e w9 ⟨rfl, rfl⟩
      go_wp2_with fail
      exact ⟨rfl, .inr ⟨rfl, HC.out, .inl ⟨rfl, HN.out⟩⟩⟩
    | true =>
      have hL2 : (w.drewN n).cell? ⟨L, 0, none⟩ = some (.string (strB line)) := hL
      go_wp2_with fail
      refine (HPF.out _).mono ?_
      rintro e w3 ⟨rfl, rfl⟩
      go_wp2_with fail
      with_reducible refine (must_false _).mono ?_
      rintro e w9 ⟨rfl, rfl⟩
      go_wp2_with fail
      exact ⟨rfl, .inr ⟨rfl, HC.out, .inl ⟨rfl, HN.out⟩⟩⟩
set_option maxRecDepth 20000 in
set_option maxHeartbeats 4000000 in
theorem row_any (line : Txt) (hl : line.length ≤ 90000) (w : World) (hm : MX w) :
    Calls Tryz.prog 12 #[.string (strB line)] w (RowIs (rowF line) w) := by
  have hmf : ∀ (fn : Fn) (first cap : Array Value) (w : World), (Instr.makeFunc fn first cap).run Tryz.prog w = .ok (.func fn first cap) w := fun _ _ _ _ => rfl
  have hgo : ∀ c w, (callFunc 47 c).run Tryz.prog w = .ok (.enter 47 c) w := fun c w => callFunc_enter Tryz.func47 (by kernel_rfl) (by kernel_rfl) c w
  have HGO := Lib.hid hgo
  clear hgo
  have HW := Lib.hid (show Below w.heap.size w (((w.alloc (.cells #[.string (strB line)] 9)).alloc (.cells (rowC (0, 0)) 40)).alloc (.cells (rowC (0, 0)) 40)) from (((Below.refl _ _).alloc (Nat.le_refl _) _).alloc (by simp) _).alloc (by simp; omega) _)
  have HL := Lib.hid (((Blk.new w #[.string (strB line)] 9 w.heap.size rfl).old (.cells (rowC (0, 0)) 40)).old (.cells (rowC (0, 0)) 40))
  have HR := Lib.hid ((Blk.new (w.alloc (.cells #[.string (strB line)] 9)) (rowC (0, 0)) 40 (w.heap.size + 1) (by simp)).old (.cells (rowC (0, 0)) 40))
  have HS := Lib.hid (Blk.new ((w.alloc (.cells #[.string (strB line)] 9)).alloc (.cells (rowC (0, 0)) 40)) (rowC (0, 0)) 40 (w.heap.size + 2) (by simp))
  have HM := Lib.hid hm
  have HLN := Lib.hid hl
  clear hm hl
  go_enter Tryz.func12, Tryz.ntmps12
  go_upto_region 2 with fail
  change Code.wp _ _ _ _ (((w.alloc (.cells #[.string (strB line)] 9)).alloc (.cells (rowC (0, 0)) 40)).alloc (.cells (rowC (0, 0)) 40))
  generalize ((w.alloc (.cells #[.string (strB line)] 9)).alloc (.cells (rowC (0, 0)) 40)).alloc (.cells (rowC (0, 0)) 40) = w1 at HW HL HR HS ⊢
  have HT := Lib.hid (try_of 47 #[.pointer (some ⟨w.heap.size, 0, none⟩), .pointer (some ⟨w.heap.size + 2, 0, none⟩)] (HGO.out _) (RowR line (w.heap.size + 2) (w1.alloc (.cells #[.int .i64 0] 30))) w1
    (row1_any line HLN.out (w.heap.size + 2) w.heap.size (0, 0) (w1.alloc (.cells #[.int .i64 0] 30)) (HM.out.below (n := w.heap.size) (HW.out.alloc HW.out.size _)) (HS.out.old _) ((HL.out.old _).cell 0 rfl))
    (fun b W h => h.1.blk (by simp) (by have := HS.out.lt; omega) (Blk.new w1 _ _ _ rfl)))
  go_wp2_with fail
  refine HT.out.mono ?_
  clear HT
  rintro e w2 ⟨b, W, ⟨hc, hb⟩, rfl, hbl⟩
  have HR2 := Lib.hid ((hc.blk (by simp; have := HR.out.lt; omega) (by omega) (HR.out.old _)).below hbl HR.out.lt)
  have HW2 := Lib.hid ((HW.out.trans (((Below.refl w1.heap.size w1).alloc (Nat.le_refl _) _).mono HW.out.size)).trans ((hc.below' (m := w.heap.size) (by omega) (by simp; have := HW.out.size; omega)).trans (hbl.mono HW.out.size)))
  rcases hb with ⟨rfl, ho⟩ | ⟨s, rfl, ho, hb⟩
  · have HN := Lib.hid ho
    clear hc ho hbl HR HL HS HW
    simp only [Bool.false_eq_true, if_false]
    go_wp2_with (refine store_blk (by rfl) 40 _ _ (by rfl) (w.heap.size + 1) (by rfl) _ (rowC (0, 0)) 40 HR2.out (by rfl) rfl (by kernel_rfl) (by simp [rowC, Value.oneCell']) ?_)
    refine bodyPost_ret (results_blk_tmp rfl rfl (HR2.out.setCells (rowC (0, 0)) rfl) Tryz.underlying40 rfl (by kernel_rfl)) rfl ?_
    exact ⟨by rw [HN.out]; rfl, Blk.Below.setCells _ _ _ HW2.out (by omega)⟩
  · have HN := Lib.hid ho
    have HS2 := Lib.hid (hb.below hbl HS.out.lt)
    clear hc ho hb hbl HR HL HS HW
    simp only [if_true]
    go_wp2_with (first
      | (refine load_blk (by rfl) 40 _ (by rfl) (w.heap.size + 2) (by rfl) _ _ HS2.out _ Tryz.underlying40 rfl (by kernel_rfl) ?_)
      | (refine store_blk (by rfl) 40 _ _ (by rfl) (w.heap.size + 1) (by rfl) _ (rowC s) 40 HR2.out (by rfl) rfl (by kernel_rfl) (by simp [rowC, Value.oneCell']) ?_))
    refine bodyPost_ret (results_blk_tmp rfl rfl (HR2.out.setCells (rowC s) rfl) Tryz.underlying40 rfl (by kernel_rfl)) rfl ?_
    exact ⟨by rw [HN.out]; rfl, Blk.Below.setCells _ _ _ HW2.out (by omega)⟩
end Go.Proofs.YtmkcooamgojbpaaGreatDoor.Sheet
