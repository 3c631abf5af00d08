/- The document's Bars. -/
import Derived.Test.YtogjgpiddjmpiaaTapeGroup
import Derived.Test.YtogjgpiddjmpiaaTapeOfW
import Derived.Test.YtogjgpiddjmpiaaTapeBars
namespace Go.Proofs.Ytogjgpiddjmpiaa.Tape
set_option linter.unusedVariables false
open Go.RowKit Go.Proofs.Ytogjgpiddjmpiaa.Kit Go.Proofs.Ytogjgpiddjmpiaa.Blk Go.Proofs.Ytogjgpiddjmpiaa.Msgs
attribute [local go_sem ↓] Go.wp_at_zero Go.wp_at_succ

theorem _root_.Go.World.ownsRow.drewN {W : World} {N e size k : Nat} {v : Value} {xs : List Value} (h : W.ownsRow N e size v k xs) (j : Nat) : (W.drewN j).ownsRow N e size v k xs := h
theorem row_base {W : World} {N M e size k : Nat} {v : Value} {xs : List Value} (h : W.ownsRow M e size v k xs) (hn : N ≤ M) : W.ownsRow N e size v k xs := by
  refine ⟨h.1, ?_⟩
  rcases h.2 with h0 | ⟨g, cap, cur, e1, hg, h2⟩
  · exact .inl h0
  · exact .inr ⟨g, cap, cur, e1, Nat.le_trans hn hg, h2⟩
/-- What the document's Bars returns. -/
def RBarsIs (wd : Int) (l : List Msg) (w : World) (e : Ending) (w' : World) : Prop :=
  ∃ v : Value, e = .returned (.tuple #[v, .int .i64 (if wd < 1 then 9 else 0)]) ∧ w'.ownsRow w.heap.size 55 8 v (if wd < 1 then [] else barsF wd l).length (rowsOf (if wd < 1 then [] else barsF wd l)) ∧ Below w.heap.size w w'
theorem row_below {W W' : World} {N e size k : Nat} {v : Value} {xs : List Value} (h : W.ownsRow N e size v k xs) (hb : Below W.heap.size W W') : W'.ownsRow N e size v k xs :=
  h.kept (below_grown hb) (by cases v.ownBlock with
    | none => exact .inl rfl
    | some j => exact .inr (by simp))
theorem bars_len (wd : Int) (l : List Msg) (hl : ∀ m ∈ l, Good m) : (barsF wd l).length ≤ l.length + 1 := by
  have h := (sound_fold wd l hl).2
  unfold barsF
  split
  · rw [List.length_append]; simp; exact h
  · omega
theorem grp_row {w : World} {b : Nat} {L : List Msg} (h : MsgRow w (some ⟨b, 0, none⟩) L) (i k : Nat) (hik : i ≤ k) (hk : k ≤ L.length) : MsgRow w (some ⟨b, i * 9, none⟩) (grp L i k) := by
  intro j hj
  rw [grp_len L i k hk] at hj
  obtain ⟨b1, o1, e1, h1, h2⟩ := h (i + j) (by omega)
  cases e1
  refine ⟨b, i * 9, rfl, h1, fun x v hv => ?_⟩
  rw [grp_at L i k j hk hj] at hv
  have := h2 x v hv
  rwa [show 0 + (i + j) * 9 + x = i * 9 + j * 9 + x by omega] at this

set_option maxRecDepth 100000 in
set_option maxHeartbeats 4000000 in
theorem refbars_any (a : Option Addr) (cap : Nat) (ms : List Msg) (sym wd : Int) (w : World) (hm : MsgRow w a ms) (hl : ms.length ≤ 1000) (hfit : ∀ m ∈ ms, m.tick ≤ 9223372036854775807) :
    Calls Try.prog 25 #[.slice a ms.length cap, .int .i64 sym, .int .i64 wd] w fun e w' => RBarsIs wd (ms.filter (isT sym)) w e w' := by
  obtain ⟨i0, hi0, hz0, hz1, hz2⟩ := info_parts infoRBar
  by_cases hw : wd < 1
  · have HW := Lib.hid hw
    go_enter Try.func25, Try.ntmps25
    go_wp2
    refine bodyPost_ret (v := .tuple #[.slice none 0 0, .int .i64 9]) (by simp [results, Try.results25, go_sem]) rfl ?_
    refine ⟨_, by rw [if_pos HW.out], ?_, Below.refl _ _⟩
    rw [if_pos HW.out]
    exact World.ownsRow_nil _ _ _ _
  · have hw1 : 1 ≤ wd := by omega
    have HC := Lib.hid (refcounts_any a cap ms sym w hm hl hfit)
    have hgood : ∀ m ∈ ms.filter (isT sym), Good m := fun m hm => good_of (List.mem_filter.1 hm).2
    have hlen : (ms.filter (isT sym)).length ≤ 1000 := Nat.le_trans (List.length_filter_le _ _) hl
    generalize ms.filter (isT sym) = L at HC hgood hlen ⊢
    have HG := Lib.hid hgood
    clear hgood hm hfit hw
    go_enter Try.func25, Try.ntmps25
    go_wp2_with fail
    refine HC.out.mono ?_
    rintro e w1 ⟨v, rfl, hown, hb1⟩
    have HROW0 := Lib.hid hown
    have HB1 := Lib.hid hb1
    obtain ⟨xa, xc, rfl, hxm, hxo, hxl, hxc⟩ := row_of_owned HROW0.out
    have HXM := Lib.hid hxm
    have HXO := Lib.hid hxo
    replace hxc : xc ≤ 9223372036854775807 := hxc
    clear hown hb1 HC hxm hxo
    go_wp2_with fail
    go_loopw [9, 10] (fun v i wr => ∃ j : Nat, j ≤ L.length ∧ i = .int .i64 j ∧ wr.ownsRow w1.heap.size 55 8 v (barsF wd (L.take j)).length (rowsOf (barsF wd (L.take j))) ∧ Below w1.heap.size w1 wr ∧ Bd wd L j) (fun _ i _ => L.length - (intOf i).toNat)
    case atStart => exact ⟨0, by omega, rfl, World.ownsRow_nil _ _ _ _, Below.refl _ _, bd_zero wd L⟩
    case round =>
      obtain ⟨i, hi, rfl, hrow, hbel, hbd⟩ := hrel
      have HROW := Lib.hid hrow
      have HBEL := Lib.hid hbel
      have HBD := Lib.hid hbd
      clear hrow hbel hbd
      obtain ⟨va, vc, rfl⟩ := row_slice HROW.out
      by_cases hlt : i < L.length
      · obtain ⟨b, off, rfl, hbl, -⟩ := msgRow_at HXM.out i hlt
        obtain ⟨-, rfl⟩ := HXO.out b off rfl
        have g0 : (0 : Int) ≤ (i : Int) := by omega
        have g1 : (i : Int) < (L.length : Int) := by omega
        have HT := Lib.hid (show ∀ j (h : j < L.length) W, Below w1.heap.size w1 W → W.cell? ⟨b, j * 9 + 3, none⟩ = some (.int .i64 L[j].tick) from fun j h W hW => by
          obtain ⟨b1, o1, e1, h1, h2⟩ := HXM.out j h
          cases e1
          rw [hW.cell (p := ⟨b, _, none⟩) hbl, show j * 9 + 3 = 0 + j * 9 + 3 by omega]
          exact h2 3 _ rfl)
        have HKY := Lib.hid (show ∀ j (h : j < L.length), L[j].tick.tmod wd = L[j].tick % wd ∧ IntKind.i64.wrap (L[j].tick - L[j].tick % wd) = key wd L[j] from fun j h => by
          have hg := HG.out L[j] (List.getElem_mem h)
          have h1 := hg.t1
          have h2 := hg.t2
          have h3 := Int.emod_nonneg L[j].tick (show wd ≠ 0 by omega)
          have h4 := Int.mul_ediv_add_emod L[j].tick wd
          have h5 := Fix.div_mul_nonneg L[j].tick wd h1 hw1
          have e : L[j].tick - L[j].tick % wd = key wd L[j] := by
            unfold key
            rw [Int.mul_comm] at h4
            omega
          refine ⟨Int.tmod_eq_emod_of_nonneg h1, ?_⟩
          rw [e, IntWalk.i64_in _ ⟨by unfold key; omega, by have : key wd L[j] ≤ L[j].tick := Fix.div_mul_le _ _ hw1; omega⟩])
        have e0 : ¬ wd = 0 := by omega
        have ct := HT.out i hlt wr HBEL.out
        have em := (HKY.out i hlt).1
        have es := (HKY.out i hlt).2
        generalize hff : key wd L[i] = f at es
        have HF := Lib.hid hff
        clear hff
        generalize L[i].tick = tk at ct em es
        generalize tk % wd = md at em es
        go_wp2_with fail
        go_quiet (fail)
        replace HROW := Lib.hid ((HROW.out).drewN nq)
        replace HBEL := Lib.hid ((HBEL.out).drewN nq)
        generalize wr.drewN nq = W2 at HROW HBEL ⊢
        clear ct em es
        go_wp2_with fail
        go_loopw [12] (fun kk wz => ∃ k : Nat, i ≤ k ∧ k ≤ L.length ∧ kk = .int .i64 k ∧ (∀ j (_ : i ≤ j) (h2 : j < k) (h3 : j < L.length), key wd L[j] = f) ∧ wz.ownsRow w1.heap.size 55 8 (.slice va (barsF wd (L.take i)).length vc) (barsF wd (L.take i)).length (rowsOf (barsF wd (L.take i))) ∧ Below w1.heap.size w1 wz) (fun kk _ => L.length - (intOf kk).toNat)
        case atStart => exact ⟨i, by omega, by omega, rfl, fun j h1 h2 => by omega, HROW.out, HBEL.out⟩
        case round =>
          clear HROW HBEL
          obtain ⟨k, hik, hkl, rfl, hks, hrow, hbel⟩ := hrel
          have HROW := Lib.hid hrow
          have HBEL := Lib.hid hbel
          have HKS := Lib.hid hks
          clear hrow hbel hks
          have q0 : (0 : Int) ≤ (k : Int) := by omega
          by_cases hkl2 : k < L.length
          · have q1 : (k : Int) < (L.length : Int) := by omega
            have ct := HT.out k hkl2 _ HBEL.out
            have em := (HKY.out k hkl2).1
            have es := (HKY.out k hkl2).2
            by_cases hkf : key wd L[k] = f
            · have bk : (key wd L[k] == f) = true := by simpa using hkf
              have HKF := Lib.hid hkf
              clear hkf
              generalize key wd L[k] = kf at bk es
              generalize L[k].tick = tk2 at ct em es
              generalize tk2 % wd = md2 at em es
              go_wp2_with fail
              go_quiet (fail)
              replace HROW := Lib.hid ((HROW.out).drewN nq)
              replace HBEL := Lib.hid ((HBEL.out).drewN nq)
              generalize wr.drewN nq = W3 at HROW HBEL ⊢
              clear ct em es
              go_wp2
              go_roundw
              case rel => exact ⟨k + 1, by omega, by omega, by go_num, fun j h1 h2 h3 => by
                rcases Nat.lt_or_ge j k with h | h
                · exact HKS.out j h1 h h3
                · obtain rfl : j = k := by omega
                  exact HKF.out, HROW.out, HBEL.out⟩
              case measure => simp [intOf]; omega
            · have bk : (key wd L[k] == f) = false := by simpa using hkf
              have hik2 : i < k := by
                rcases Nat.lt_or_ge i k with h | h
                · exact h
                · exfalso
                  obtain rfl : i = k := by omega
                  exact hkf HF.out
              have HEX := Lib.hid (show ∀ h : k < L.length, f ≠ key wd L[k] from fun _ e => hkf e.symm)
              clear hkf
              generalize key wd L[k] = kf at bk es
              generalize L[k].tick = tk2 at ct em es
              generalize tk2 % wd = md2 at em es
              go_wp2_with fail
              go_quiet (fail)
              replace HROW := Lib.hid ((HROW.out).drewN nq)
              replace HBEL := Lib.hid ((HBEL.out).drewN nq)
              generalize wr.drewN nq = W3 at HROW HBEL ⊢
              clear ct em es
              have HGN := Lib.hid (group_next wd L HG.out i k hik2 hkl HBD.out (fun j h1 h2 => (HKS.out j h1 h2 (by omega)).trans HF.out.symm))
              rw [HF.out] at HGN
              have HBD2 := Lib.hid (show Bd wd L k from .inr (fun h => by rw [HGN.out.2.2]; exact HEX.out h))
              have HOF := Lib.hid (fun W (hW : Below w1.heap.size w1 W) => of_any (some ⟨b, i * 9, none⟩) (xc - i) (k - i - 1) (k - i) (grp L i k) (grp_len L i k hkl) (by omega) (L[i]'(by omega)) (L[k - 1]'(by omega)) (by rw [grp_at L i k 0 hkl (by omega)]; rfl) (by rw [grp_at L i k (k - i - 1) hkl (by omega)]; congr 1; omega) f W (grp_row (HXM.out.all hW) i k (by omega) hkl) (by omega) (fun m hm => HG.out m (List.mem_of_mem_drop (List.mem_of_mem_take hm))))
              generalize ofF f (grp L i k) L[i] L[k - 1] = d at HOF HGN
              have r0 : (k : Int) ≤ (xc : Int) := by omega
              have r1 : (i : Int) ≤ (k : Int) := by omega
              clear hik
              have HLB := Lib.hid (bars_len wd (L.take i) (fun m hm => HG.out m (List.mem_of_mem_take hm)))
              have hli : (L.take i).length ≤ 1000 := by rw [List.length_take]; omega
              go_wp2_with fail
              refine (HOF.out _ HBEL.out).mono ?_
              rintro e w4 ⟨rfl, hb4⟩
              dsimp only [Bar.cells]
              have HB4 := Lib.hid (HBEL.out.trans (hb4.mono HBEL.out.size))
              have HR4 := Lib.hid (row_below HROW.out hb4)
              have HN4 := Lib.hid (Blk.new w4 d.cells 55 w4.heap.size rfl)
              have HR5 := Lib.hid (HR4.out.alloc (.cells d.cells 55))
              have HB5 := Lib.hid (HB4.out.alloc HB4.out.size (.cells d.cells 55))
              clear hb4 HROW HBEL HOF
              go_wp2_with (at_builtin; refine wpList_append_lies _ (by rfl) _ _ _ (by rfl) w1.heap.size 55 i0 (.agg Bar.zero.cells) 8 64 Try.underlying49 hi0 hz0 hz1 hz2 (by rfl) (by decide) _ (barsF wd (L.take i)).length (rowsOf (barsF wd (L.take i))) (by rfl) HR5.out ⟨w4.heap.size, 0, none⟩ 1 1 d.cells.toList (by rfl) (by rfl) (news_blk HN4.out) (one_mem (one_bar d)) (by decide) (by unfold maxLen; have := HLB.out; omega) (by have := HLB.out; omega) HB5.out.size (w4.heap.size + 1) (by simp) ?_; intro ga capa w6 hown6 hgrow6 hat6 hlt6)
              have HB6 := Lib.hid (below_push HB5.out HR5.out hgrow6 HB5.out.size)
              have HR6 := Lib.hid hown6
              clear hown6 hgrow6 hat6 hlt6 HB5 HR5 HB4 HR4 HN4
              go_roundw
              case rel => exact ⟨k, hkl, rfl, by rw [HGN.out.1, rowsOf_app, List.length_append]; exact HR6.out, HB6.out, HBD2.out⟩
              case measure => simp [intOf]; omega
          · have hkl3 : k = L.length := by omega
            have hik2 : i < k := by omega
            have q1 : (L.length : Int) ≤ (k : Int) := by omega
            have bk : decide ((k : Int) < (L.length : Int)) = false := by simp; omega
            have HEX := Lib.hid (show ∀ h : k < L.length, f ≠ key wd L[k] from fun h => by omega)
            clear hkl3
            go_wp2_with fail
            go_quiet (fail)
            replace HROW := Lib.hid ((HROW.out).drewN nq)
            replace HBEL := Lib.hid ((HBEL.out).drewN nq)
            generalize wr.drewN nq = W3 at HROW HBEL ⊢
            have HGN := Lib.hid (group_next wd L HG.out i k hik2 hkl HBD.out (fun j h1 h2 => (HKS.out j h1 h2 (by omega)).trans HF.out.symm))
            rw [HF.out] at HGN
            have HBD2 := Lib.hid (show Bd wd L k from .inr (fun h => by rw [HGN.out.2.2]; exact HEX.out h))
            have HOF := Lib.hid (fun W (hW : Below w1.heap.size w1 W) => of_any (some ⟨b, i * 9, none⟩) (xc - i) (k - i - 1) (k - i) (grp L i k) (grp_len L i k hkl) (by omega) (L[i]'(by omega)) (L[k - 1]'(by omega)) (by rw [grp_at L i k 0 hkl (by omega)]; rfl) (by rw [grp_at L i k (k - i - 1) hkl (by omega)]; congr 1; omega) f W (grp_row (HXM.out.all hW) i k (by omega) hkl) (by omega) (fun m hm => HG.out m (List.mem_of_mem_drop (List.mem_of_mem_take hm))))
            generalize ofF f (grp L i k) L[i] L[k - 1] = d at HOF HGN
            have r0 : (k : Int) ≤ (xc : Int) := by omega
            have r1 : (i : Int) ≤ (k : Int) := by omega
            clear hik
            have HLB := Lib.hid (bars_len wd (L.take i) (fun m hm => HG.out m (List.mem_of_mem_take hm)))
            have hli : (L.take i).length ≤ 1000 := by rw [List.length_take]; omega
            go_wp2_with fail
            refine (HOF.out _ HBEL.out).mono ?_
            rintro e w4 ⟨rfl, hb4⟩
            dsimp only [Bar.cells]
            have HB4 := Lib.hid (HBEL.out.trans (hb4.mono HBEL.out.size))
            have HR4 := Lib.hid (row_below HROW.out hb4)
            have HN4 := Lib.hid (Blk.new w4 d.cells 55 w4.heap.size rfl)
            have HR5 := Lib.hid (HR4.out.alloc (.cells d.cells 55))
            have HB5 := Lib.hid (HB4.out.alloc HB4.out.size (.cells d.cells 55))
            clear hb4 HROW HBEL HOF
            go_wp2_with (at_builtin; refine wpList_append_lies _ (by rfl) _ _ _ (by rfl) w1.heap.size 55 i0 (.agg Bar.zero.cells) 8 64 Try.underlying49 hi0 hz0 hz1 hz2 (by rfl) (by decide) _ (barsF wd (L.take i)).length (rowsOf (barsF wd (L.take i))) (by rfl) HR5.out ⟨w4.heap.size, 0, none⟩ 1 1 d.cells.toList (by rfl) (by rfl) (news_blk HN4.out) (one_mem (one_bar d)) (by decide) (by unfold maxLen; have := HLB.out; omega) (by have := HLB.out; omega) HB5.out.size (w4.heap.size + 1) (by simp) ?_; intro ga capa w6 hown6 hgrow6 hat6 hlt6)
            have HB6 := Lib.hid (below_push HB5.out HR5.out hgrow6 HB5.out.size)
            have HR6 := Lib.hid hown6
            clear hown6 hgrow6 hat6 hlt6 HB5 HR5 HB4 HR4 HN4
            go_roundw
            case rel => exact ⟨k, hkl, rfl, by rw [HGN.out.1, rowsOf_app, List.length_append]; exact HR6.out, HB6.out, HBD2.out⟩
            case measure => simp [intOf]; omega
      · obtain rfl : i = L.length := by omega
        rw [List.take_length] at HROW
        have g1 : (L.length : Int) ≤ (L.length : Int) := by omega
        have HFIN := Lib.hid (row_base HROW.out HB1.out.size)
        have HBF := Lib.hid (HB1.out.trans (HBEL.out.mono HB1.out.size))
        clear HROW HBEL HBD
        go_wp2
        refine bodyPost_ret (v := .tuple #[.slice va (barsF wd L).length vc, .int .i64 0]) (by simp [results, Try.results25, go_sem]) rfl ?_
        refine ⟨_, by rw [if_neg (show ¬ wd < 1 by omega)], ?_, HBF.out⟩
        rw [if_neg (show ¬ wd < 1 by omega)]
        exact HFIN.out
end Go.Proofs.Ytogjgpiddjmpiaa.Tape
