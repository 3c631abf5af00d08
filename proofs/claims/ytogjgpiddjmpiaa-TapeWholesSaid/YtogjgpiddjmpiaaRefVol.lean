/- The document's Volume and Busiest. -/
import Derived.Test.YtogjgpiddjmpiaaTapeRefC
import Derived.Test.YtogjgpiddjmpiaaVol
namespace Go.Proofs.Ytogjgpiddjmpiaa.Tape
set_option linter.unusedVariables false
open Go.RowKit Go.Proofs.Ytogjgpiddjmpiaa.Kit Go.Proofs.Ytogjgpiddjmpiaa.Blk Go.Proofs.Ytogjgpiddjmpiaa.Msgs
attribute [local go_sem ↓] Go.wp_at_zero Go.wp_at_succ

theorem vol_take (L : List Msg) (p : Int) (k : Nat) (h : k < L.length) : volP (L.take (k + 1)) p = volP (L.take k) p + if L[k].price = p then L[k].qty else 0 := by
  rw [List.take_succ_eq_append_getElem h, vol_snoc]

set_option maxRecDepth 20000 in
set_option maxHeartbeats 2000000 in
theorem refvol_any (a : Option Addr) (cap : Nat) (ms : List Msg) (sym p : Int) (w : World) (hm : MsgRow w a ms) (hl : ms.length ≤ 1000) (hfit : ∀ m ∈ ms, m.tick ≤ 9223372036854775807) :
    Calls Try.prog 33 #[.slice a ms.length cap, .int .i64 sym, .int .i64 p] w fun e w' => e = .returned (.int .i64 (volP (ms.filter (isT sym)) p)) ∧ Below w.heap.size w w' := by
  have HC := Lib.hid (refcounts_any a cap ms sym w hm hl hfit)
  have hgd : ∀ m ∈ ms.filter (isT sym), Good m := fun m hm => good_of (List.mem_filter.1 hm).2
  have hln : (ms.filter (isT sym)).length ≤ 1000 := Nat.le_trans (List.length_filter_le _ _) hl
  clear hm hl hfit
  generalize ms.filter (isT sym) = L at HC hgd hln ⊢
  go_enter Try.func33, Try.ntmps33
  go_wp2_with fail
  refine HC.out.mono ?_
  rintro e w1 ⟨v, rfl, hown, hb⟩
  obtain ⟨b, c, rfl, hrow, -, -, -⟩ := row_of_owned hown
  have HROW := Lib.hid hrow
  have HB := Lib.hid hb
  have HG := Lib.hid hgd
  clear hown hrow hb hgd HC
  go_wp2_with fail
  go_loop [8, 9] (fun n i => ∃ k : Nat, k ≤ L.length ∧ i = .int .i64 k ∧ n = .int .i64 (volP (L.take k) p)) (fun _ i => L.length - (intOf i).toNat)
  case atStart => exact ⟨0, by omega, rfl, rfl⟩
  case round =>
    obtain ⟨k, hk, rfl, rfl⟩ := hrel
    by_cases hlt : k < L.length
    · obtain ⟨b', off, rfl, hbl, hc⟩ := HROW.out k hlt
      have HV := Lib.hid (vol_take L p k hlt)
      have ⟨v0, v1⟩ := vol_in (L.take k) (fun m hm => HG.out m (List.mem_of_mem_take hm)) p
      have hlk : (L.take k).length ≤ 1000 := by have := List.length_take_le k L; omega
      have hgk := HG.out L[k] (List.getElem_mem hlt)
      have q1 := hgk.q1
      have q2 := hgk.q2
      clear hgk
      generalize L[k] = m at hc HV q1 q2
      have c6 : w1.cell? ⟨b', off + k * 9 + 6, none⟩ = some (.int .i64 m.price) := hc 6 _ rfl
      have c7 : w1.cell? ⟨b', off + k * 9 + 7, none⟩ = some (.int .i64 m.qty) := hc 7 _ rfl
      clear hc
      generalize volP (L.take k) p = vv at HV v0 v1 ⊢
      by_cases hp : m.price = p
      · have hb1 : (m.price == p) = true := by simpa using hp
        have HV2 := Lib.hid (show volP (L.take (k + 1)) p = vv + m.qty by rw [HV.out, if_pos hp])
        clear hp
        go_wp2
        go_round
        case rel => exact ⟨k + 1, by omega, by go_num, by rw [HV2.out]⟩
        case measure => simp [intOf]; omega
      · have hb1 : (m.price == p) = false := by simpa using hp
        have HV2 := Lib.hid (show volP (L.take (k + 1)) p = vv by rw [HV.out, if_neg hp, Int.add_zero])
        clear hp
        go_wp2
        go_round
        case rel => exact ⟨k + 1, by omega, by go_num, by rw [HV2.out]⟩
        case measure => simp [intOf]; omega
    · obtain rfl : k = L.length := by omega
      rw [List.take_length]
      go_wp2
      go_ret
      exact ⟨rfl, HB.out⟩

theorem prices_take (L : List Msg) (k : Nat) (h : k < L.length) : (L.take (k + 1)).map (·.price) = (L.take k).map (·.price) ++ [L[k].price] := by
  rw [List.take_succ_eq_append_getElem h, List.map_append]; rfl
/-- Behind k of the trades: the busiest so far, and how much that is. -/
def Best (v : Int → Int) (l : List Int) (b m : Int) : Prop := (l = [] ∧ b = 0 ∧ m = 0) ∨ (Busy v l b ∧ m = v b)
def RBusyIs (L : List Msg) (w : World) (e : Ending) (w' : World) : Prop := ∃ b, e = .returned (.tuple #[.int .i64 b, .bool (decide (0 < L.length))]) ∧ BusyOr (volP L) (L.map (·.price)) b ∧ Below w.heap.size w w'

set_option maxRecDepth 20000 in
set_option maxHeartbeats 4000000 in
theorem refbusy_any (a : Option Addr) (cap : Nat) (ms : List Msg) (sym : Int) (w : World) (hm : MsgRow w a ms) (hl : ms.length ≤ 1000) (hfit : ∀ m ∈ ms, m.tick ≤ 9223372036854775807) :
    Calls Try.prog 31 #[.slice a ms.length cap, .int .i64 sym] w fun e w' => RBusyIs (ms.filter (isT sym)) w e w' := by
  have HC := Lib.hid (refcounts_any a cap ms sym w hm hl hfit)
  have HVOL := Lib.hid (fun p W (hb : Below w.heap.size w W) => refvol_any a cap ms sym p W (hm.all hb) hl hfit)
  have hgd : ∀ m ∈ ms.filter (isT sym), Good m := fun m hm => good_of (List.mem_filter.1 hm).2
  have hln : (ms.filter (isT sym)).length ≤ 1000 := Nat.le_trans (List.length_filter_le _ _) hl
  clear hm hl hfit
  generalize ms.filter (isT sym) = L at HC hgd hln HVOL ⊢
  generalize ms.length = n at HC HVOL ⊢
  go_enter Try.func31, Try.ntmps31
  go_wp2_with fail
  refine HC.out.mono ?_
  rintro e w1 ⟨v, rfl, hown, hb⟩
  obtain ⟨b, c, rfl, hrow, -, -, -⟩ := row_of_owned hown
  have HROW := Lib.hid hrow
  have HB := Lib.hid hb
  have HG := Lib.hid hgd
  clear hown hrow hb hgd HC
  go_wp2_with fail
  go_loopw [7, 8, 9] (fun x y i wr => ∃ (k : Nat) (bb mm : Int), k ≤ L.length ∧ i = .int .i64 k ∧ x = .int .i64 bb ∧ y = .int .i64 mm ∧ Best (volP L) ((L.take k).map (·.price)) bb mm ∧ Below w1.heap.size w1 wr) (fun _ _ i _ => L.length - (intOf i).toNat)
  case atStart => exact ⟨0, 0, 0, by omega, rfl, rfl, rfl, .inl ⟨rfl, rfl, rfl⟩, Below.refl _ _⟩
  case round =>
    obtain ⟨k, bb, mm, hk, rfl, rfl, rfl, hbest, hbw⟩ := hrel
    have HBW := Lib.hid hbw
    clear hbw
    by_cases hlt : k < L.length
    · obtain ⟨b', off, rfl, hbl, hc⟩ := HROW.out k hlt
      have HP := Lib.hid (prices_take L k hlt)
      have hgk := HG.out L[k] (List.getElem_mem hlt)
      have vp := vol_pos L HG.out L[k] (List.getElem_mem hlt)
      have p1 := hgk.p1
      have p2 := hgk.p2
      have vn := vol_in L HG.out L[k].price
      clear hgk
      generalize L[k] = m at hc HP p1 p2 vp vn
      have HC6 := Lib.hid (hc 6 _ rfl)
      clear hc
      have c6 : wr.cell? ⟨b', off + k * 9 + 6, none⟩ = some (.int .i64 m.price) := by rw [HBW.out.cell (p := ⟨b', _, none⟩) hbl]; exact HC6.out
      go_wp2_with fail
      refine (HVOL.out m.price _ (HB.out.trans (HBW.out.mono HB.out.size))).mono ?_
      rintro e w2 ⟨rfl, hb2⟩
      replace HBW := Lib.hid (HBW.out.trans (hb2.mono HBW.out.size))
      clear hb2 c6
      have c6 : w2.cell? ⟨b', off + k * 9 + 6, none⟩ = some (.int .i64 m.price) := by rw [HBW.out.cell (p := ⟨b', _, none⟩) hbl]; exact HC6.out
      generalize hvv : volP L m.price = vv at vp vn ⊢
      have HVV := Lib.hid hvv
      clear hvv
      have HBEST := Lib.hid hbest
      by_cases h1 : mm < vv
      · have HN : Hid (Best (volP L) ((L.take (k + 1)).map (·.price)) m.price vv) := Lib.hid (by
          rw [HP.out]
          refine .inr ⟨?_, HVV.out.symm⟩
          rcases HBEST.out with ⟨h0, -, -⟩ | ⟨h0, h2⟩
          · rw [h0]; exact busy_one _ _
          · exact busy_new h0 (.inl (by rw [← h2, HVV.out]; exact h1)))
        clear hbest
        go_wp2
        go_roundw
        case rel => exact ⟨k + 1, _, _, by omega, by go_num, rfl, rfl, HN.out, HBW.out⟩
        case measure => simp [intOf]; omega
      · have hy : Busy (volP L) ((L.take k).map (·.price)) bb ∧ mm = volP L bb := by
          rcases hbest with ⟨-, -, h0⟩ | h
          · omega
          · exact h
        have HY := Lib.hid hy
        clear hbest hy
        by_cases h2 : vv = mm
        · have g2 : (vv == mm) = true := by simpa using h2
          by_cases h3 : m.price < bb
          · have HN : Hid (Best (volP L) ((L.take (k + 1)).map (·.price)) m.price vv) := Lib.hid (by
              rw [HP.out]
              exact .inr ⟨busy_new HY.out.1 (.inr ⟨by rw [HVV.out, ← HY.out.2]; exact h2, h3⟩), HVV.out.symm⟩)
            have HE := Lib.hid h2
            clear h2
            go_wp2
            go_roundw
            case rel => exact ⟨k + 1, _, _, by omega, by go_num, rfl, rfl, HN.out, HBW.out⟩
            case measure => simp [intOf]; omega
          · have HN : Hid (Best (volP L) ((L.take (k + 1)).map (·.price)) bb mm) := Lib.hid (by
              rw [HP.out]
              exact .inr ⟨busy_old HY.out.1 (.inr ⟨by rw [HVV.out, ← HY.out.2]; exact h2, by omega⟩), HY.out.2⟩)
            clear h2
            go_wp2
            go_roundw
            case rel => exact ⟨k + 1, _, _, by omega, by go_num, rfl, rfl, HN.out, HBW.out⟩
            case measure => simp [intOf]; omega
        · have g2 : (vv == mm) = false := by simpa using h2
          have HN : Hid (Best (volP L) ((L.take (k + 1)).map (·.price)) bb mm) := Lib.hid (by
            rw [HP.out]
            exact .inr ⟨busy_old HY.out.1 (.inl (by rw [HVV.out, ← HY.out.2]; omega)), HY.out.2⟩)
          clear h2
          go_wp2
          go_roundw
          case rel => exact ⟨k + 1, _, _, by omega, by go_num, rfl, rfl, HN.out, HBW.out⟩
          case measure => simp [intOf]; omega
    · obtain rfl : k = L.length := by omega
      rw [List.take_length] at hbest
      have HN : Hid (BusyOr (volP L) (L.map (·.price)) bb) := Lib.hid (by
        rcases hbest with ⟨h0, h1, -⟩ | ⟨h0, -⟩
        · exact .inl ⟨h0, h1⟩
        · exact .inr h0)
      clear hbest
      go_wp2
      go_ret2
      exact ⟨bb, rfl, HN.out, HB.out.trans (HBW.out.mono HB.out.size)⟩
end Go.Proofs.Ytogjgpiddjmpiaa.Tape
