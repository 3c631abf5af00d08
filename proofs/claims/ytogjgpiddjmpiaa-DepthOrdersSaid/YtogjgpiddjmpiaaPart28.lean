/- Parts of the proof: R33V, R33W, DepthOf, OrdMsg, DepthPlaysW, DepthOrdersW. -/
import Derived.Test.YtogjgpiddjmpiaaPart24
import Derived.Test.YtogjgpiddjmpiaaPart27
import Derived.Test.YtogjgpiddjmpiaaPart2
import Derived.Test.YtogjgpiddjmpiaaPart5

/- The document's Levels. -/
namespace Go.Proofs.Ytogjgpiddjmpiaa.Depth
open Go.RowKit Go.Proofs.Ytogjgpiddjmpiaa.Kit Go.Proofs.Ytogjgpiddjmpiaa.Blk Go.Proofs.Ytogjgpiddjmpiaa.Mp Go.Proofs.Ytogjgpiddjmpiaa.Msgs Go.Proofs.Ytogjgpiddjmpiaa.Octets Go.Proofs.Ytogjgpiddjmpiaa.Tape
attribute [local go_sem ↓] Go.wp_at_zero Go.wp_at_succ
set_option linter.unusedVariables false

def ordOf (p : Key × Rest) : Ordr := ⟨p.1.2, 0, p.2.side, p.2.price, p.2.qty, 0, 0⟩
theorem one_ordr (o : Ordr) : o.cells.all (·.oneCell') = true := by simp [Ordr.cells, Value.oneCell']
abbrev rowsO (l : List Ordr) : List Value := l.flatMap fun o => o.cells.toList
/-- The orders at a symbol's side. -/
def fil (L : List (Key × Rest)) (sym side : Int) : List Ordr := (L.filter fun p => decide (p.1.1 = sym) && decide (p.2.side = side)).map ordOf
theorem fil_yes {L : List (Key × Rest)} {p : Key × Rest} {sym side : Int} (h1 : p.1.1 = sym) (h2 : p.2.side = side) : fil (L ++ [p]) sym side = fil L sym side ++ [ordOf p] := by
  simp [fil, List.filter_append, h1, h2]
theorem fil_no {L : List (Key × Rest)} {p : Key × Rest} {sym side : Int} (h : ¬ (p.1.1 = sym ∧ p.2.side = side)) : fil (L ++ [p]) sym side = fil L sym side := by
  have : (decide (p.1.1 = sym) && decide (p.2.side = side)) = false := by simpa using h
  simp [fil, List.filter_append, this]
theorem fil_pq (L : List (Key × Rest)) (sym side : Int) : (fil L sym side).map Ordr.pq = restV L sym side := by
  unfold fil restV; rw [List.map_map]; rfl
theorem fil_len (L : List (Key × Rest)) (sym side : Int) : (fil L sym side).length ≤ L.length := by
  unfold fil; rw [List.length_map]; exact List.length_filter_le _ _
theorem fil_mem {L : List (Key × Rest)} {sym side : Int} {o : Ordr} (h : o ∈ fil L sym side) : o.side = side ∧ ∃ p ∈ L, o = ordOf p := by
  obtain ⟨p, hp, rfl⟩ := List.mem_map.1 h
  have := (List.mem_filter.1 hp).2
  simp only [Bool.and_eq_true, decide_eq_true_eq] at this
  exact ⟨this.2, p, (List.mem_filter.1 hp).1, rfl⟩
theorem infoOrd : (Try.prog.info? 85).map (fun i => (i.zero, i.size, i.bytes)) = some (some (.agg #[.int .i64 0, .int .i64 0, .int .i64 0, .int .i64 0, .int .i64 0, .int .i64 0, .int .i64 0]), 7, 56) := by kernel_rfl
theorem rof_nil (w : World) : Calls Try.prog 44 #[.slice none 0 0] w fun e w' => e = .returned (.slice none 0 0) ∧ w = w' := by
  go_enter Try.func44, Try.ntmps44
  go_wp2_with fail
  go_ret
  exact ⟨rfl, rfl⟩
/-- What the document's Levels answers. -/
def RLevIs (L : List (Key × Rest)) (sym side most : Int) (w : World) (e : Ending) (w' : World) : Prop :=
  ∃ v, e = .returned v ∧ LvRow w' w.heap.size v (cutF most (ofL side (restV L sym side))) ∧ Below w.heap.size w w'
theorem OS.lvrow {n0 : Nat} {side : Int} {w W : World} {v : Value} {S : List Lvl} (h : OS n0 side w W v S) : LvRow W n0 v S := by
  obtain ⟨a, c, h1, h2, h3, h4⟩ := h.at
  exact ⟨a, c, h1, h2, h3, fun i hi => by
    obtain ⟨g, g1, g2, g3, g4⟩ := h4 i hi
    exact ⟨g, g1, g2, g3, fun j u hu => g4 j u (by simpa using hu)⟩⟩
theorem lvrow_nil (W : World) (n0 : Nat) : LvRow W n0 (.slice none 0 0) [] := ⟨none, 0, rfl, Nat.le_refl _, Nat.zero_le _, fun i hi => by simp at hi⟩
theorem LvRow.mono {W : World} {N N' : Nat} {v : Value} {S : List Lvl} (h : LvRow W N v S) (hn : N' ≤ N) : LvRow W N' v S := by
  obtain ⟨a, c, h1, h2, h3, h4⟩ := h
  exact ⟨a, c, h1, h2, h3, fun i hi => by obtain ⟨g, f1, f2, f3⟩ := h4 i hi; exact ⟨g, f1, Nat.le_trans hn f2, f3⟩⟩
theorem LvRow.cut {W : World} {N : Nat} {a : Option Addr} {c : Nat} {S : List Lvl} (h : LvRow W N (.slice a S.length c) S) {m : Nat} (hm : m < S.length) : LvRow W N (.slice a m c) (S.take m) := by
  obtain ⟨a', c', h1, h2, h3, h4⟩ := h
  injection h1 with h1 _ h5
  subst h1 h5
  have hl : (S.take m).length = m := by rw [List.length_take]; omega
  refine ⟨a, c, by rw [hl], by omega, by omega, fun i hi => ?_⟩
  obtain ⟨g, f1, f2, f3, f4⟩ := h4 i (by omega)
  refine ⟨g, f1, f2, f3, fun j u hu => f4 j u ?_⟩
  rwa [List.getElem_take] at hu
set_option maxRecDepth 20000 in
set_option maxHeartbeats 4000000 in
theorem rlevels_any (N R : Nat) (L : List (Key × Rest)) (sym side most : Int) (w : World) (h : RS N w R L) (hok : OkL L) (hl : L.length ≤ 1000) (hs : side = 0 ∨ side = 1) :
    Calls Try.prog 42 #[.pointer (some ⟨R, 0, none⟩), .int .i64 sym, .int .i64 side, .int .i64 most] w (RLevIs L sym side most w) := by
  obtain ⟨v, hR, -, hrow, -⟩ := h
  obtain ⟨a, cap, rfl, hc1, hc2, hat⟩ := owned_at rowC 8 rowC_size hrow
  have cR : w.cell? ⟨R, 0, none⟩ = some (.slice a L.length cap) := hR.cell 0 rfl
  have hRl := hR.lt
  have HAT := Lib.hid hat
  have HOK := Lib.hid hok
  have HSD := Lib.hid hs
  obtain ⟨i0, hi0, hz0, hz1, hz2⟩ := info_parts infoOrd
  unfold maxLen at hc2
  clear hrow hR hat hok hs
  go_enter Try.func42, Try.ntmps42
  go_wp2_with fail
  go_loopw [9, 10] (fun v i wr => ∃ k : Nat, k ≤ L.length ∧ i = .int .i64 k ∧ GL w.heap.size 85 7 w wr v (fil (L.take k) sym side).length (rowsO (fil (L.take k) sym side))) (fun _ i _ => L.length - (intOf i).toNat)
  case atStart => exact ⟨0, by omega, rfl, GL.start _ _ _ (Below.refl _ _) (Nat.le_refl _)⟩
  case round =>
    obtain ⟨k, hk, rfl, hgl⟩ := hrel
    have H := Lib.hid hgl
    clear hgl
    have cR2 : wr.cell? ⟨R, 0, none⟩ = some (.slice a L.length cap) := by rw [H.out.bel.cell (p := ⟨R, _, none⟩) hRl]; exact cR
    by_cases hlt : k < L.length
    · obtain ⟨g, rfl, hgn, hgw, hcell⟩ := HAT.out k hlt
      have HYES := Lib.hid (fil_yes (L := L.take k) (p := L[k]) (sym := sym) (side := side))
      have HNO := Lib.hid (fil_no (L := L.take k) (p := L[k]) (sym := sym) (side := side))
      rw [← List.take_succ_eq_append_getElem hlt] at HYES HNO
      have hlen := fil_len (L.take k) sym side
      rw [List.length_take] at hlen
      have hc : wr.rangeAt g (k * 8) (rowC L[k]).toList := fun j u hu => by
        rw [H.out.bel.cell (p := ⟨g, _, none⟩) hgw]; exact hcell j u hu
      have c0 : wr.cell? ⟨g, k * 8, none⟩ = some (.int .i64 L[k].1.1) := hc 0 _ rfl
      have c3 : wr.cell? ⟨g, k * 8 + 1 + 2, none⟩ = some (.int .i64 L[k].2.side) := hc 3 _ rfl
      have hrow : wr.rangeAt g (k * 8 + 1) (ordOf L[k]).cells.toList := fun j u hu => by
        have := hc (j + 1) u (by simpa [rowC, Ordr.cells, ordOf] using hu)
        rwa [show k * 8 + (j + 1) = k * 8 + 1 + j by omega] at this
      have g0 : (0 : Int) ≤ (k : Int) := by omega
      have g1 : (k : Int) < (L.length : Int) := by omega
      clear hcell hc cR
      generalize L[k] = x at *
      generalize hF1 : fil (L.take (k + 1)) sym side = F1 at *
      replace hF1 := Lib.hid hF1
      generalize fil (L.take k) sym side = F at *
      obtain ⟨⟨x1, x2⟩, xs, xp, xq⟩ := x
      dsimp only at c0 c3
      have HRW := Lib.hid hrow
      clear hrow
      by_cases h1 : x1 = sym
      · by_cases h2 : xs = side
        · have HE := Lib.hid (HYES.out h1 h2)
          have b1 : (x1 == sym) = true := by simpa using h1
          have b2 : (xs == side) = true := by simpa using h2
          clear h1 h2 HYES HNO
          have HN := Lib.hid (H.out.new (ordOf ((x1, x2), ⟨xs, xp, xq⟩)).cells)
          go_wp2_with (with_reducible (show wpList _ _ _ (⟨some 52, _, _, _, _, _⟩ :: _) _ _); refine stopAt ?_)
          unfold StopAt
          refine wpList_load_mid rfl 85 (.tmp 51) rfl g (k * 8 + 1) rfl (ordOf ((x1, x2), ⟨xs, xp, xq⟩)).cells.toList _ HRW.out Try.underlying85 rfl (by kernel_rfl) ?_
          simp only [Ordr.cells, ordOf]
          go_wp2_with (with_reducible (show wpList _ _ _ (⟨some 54, _, _, _, _, _⟩ :: _) _ _); refine stopAt ?_)
          unfold StopAt
          refine GN.wp HN.out rfl (.tmp 44) (.tmp 53) 83 rfl i0 (.agg #[.int .i64 0, .int .i64 0, .int .i64 0, .int .i64 0, .int .i64 0, .int .i64 0, .int .i64 0]) 56 Try.underlying83 hi0 hz0 hz1 hz2 rfl (by decide) rfl rfl (ordr_size _) (one_mem (one_ordr _)) (by unfold maxLen; omega) (by omega) ?_
          intro g5 cap5 w5 H5
          replace H5 := Lib.hid H5
          go_wp2_with fail
          go_roundw
          case rel => exact ⟨k + 1, by omega, by go_num, by rw [hF1.out, HE.out]; simpa [rowsO] using H5.out⟩
          case measure => simp [intOf]; omega
        · have b1 : (x1 == sym) = true := by simpa using h1
          have b2 : (xs == side) = false := by simpa using h2
          have hne : ¬ (x1 = sym ∧ xs = side) := fun h => h2 h.2
          clear h1 h2 HYES
          go_wp2_with fail
          go_roundw
          case rel => exact ⟨k + 1, by omega, by go_num, by rw [hF1.out, HNO.out hne]; exact H.out⟩
          case measure => simp [intOf]; omega
      · have b1 : (x1 == sym) = false := by simpa using h1
        have hne : ¬ (x1 = sym ∧ xs = side) := fun h => h1 h.1
        clear h1 HYES
        go_wp2_with fail
        go_roundw
        case rel => exact ⟨k + 1, by omega, by go_num, by rw [hF1.out, HNO.out hne]; exact H.out⟩
        case measure => simp [intOf]; omega
    · obtain rfl : k = L.length := by omega
      rw [List.take_length] at H
      have hfl := fil_len L sym side
      have HM := Lib.hid (fun o (ho : o ∈ fil L sym side) => fil_mem ho)
      have HPQ := Lib.hid (fil_pq L sym side)
      by_cases h0 : 0 < (fil L sym side).length
      · obtain ⟨va, vc, rfl, hv1, hv2, hva⟩ := owned_at Ordr.cells 7 ordr_size H.out.own
        have HOF := Lib.hid (rof_any side HSD.out (fil L sym side) va vc wr (by omega) h0 (HM.out _ (List.getElem_mem h0)).1 (fun o ho => by
          obtain ⟨-, p, hp, rfl⟩ := HM.out o ho
          have := HOK.out p hp
          exact ⟨by have : 0 ≤ p.2.qty := by omega
                    exact this, this.2.1⟩) (fun i hi => by
          obtain ⟨g, f1, f2, f3, f4⟩ := hva i hi
          exact ⟨g, f1, f3, f4⟩))
        clear hva
        go_wp2_with fail
        refine HOF.out.mono ?_
        rintro e w2 ⟨v, rfl, hos⟩
        rw [HPQ.out] at hos
        have H3 := Lib.hid (H.out.bel.trans (hos.bel.mono H.out.le))
        have H2 := Lib.hid (hos.lvrow.mono H.out.le)
        clear HOF
        obtain ⟨a2, c2, rfl, hc1', hc2', -⟩ := hos.lvrow
        clear hos hc2
        have hc2 := hc2'
        clear hc2'
        unfold maxLen at hc2
        by_cases hm0 : 0 ≤ most
        · by_cases hm1 : most < (ofL side (restV L sym side)).length
          · have HE := Lib.hid (show cutF most (ofL side (restV L sym side)) = (ofL side (restV L sym side)).take most.toNat by simp [cutF, hm0, hm1])
            obtain ⟨m, rfl⟩ := Int.eq_ofNat_of_zero_le hm0
            have HR := Lib.hid (H2.out.cut (m := m) (by omega))
            go_wp2_with fail
            go_ret
            exact ⟨_, rfl, by rw [HE.out]; exact HR.out, H3.out⟩
          · have HE := Lib.hid (show cutF most (ofL side (restV L sym side)) = ofL side (restV L sym side) by simp [cutF, hm1])
            go_wp2_with fail
            go_ret
            exact ⟨_, rfl, by rw [HE.out]; exact H2.out, H3.out⟩
        · have HE := Lib.hid (show cutF most (ofL side (restV L sym side)) = ofL side (restV L sym side) by simp [cutF, hm0])
          go_wp2_with fail
          go_ret
          exact ⟨_, rfl, by rw [HE.out]; exact H2.out, H3.out⟩
      · have hF : fil L sym side = [] := List.eq_nil_of_length_eq_zero (by omega)
        have hV : restV L sym side = [] := by rw [← HPQ.out, hF]; rfl
        rw [hF] at H
        have hnil := H.out.nil rfl
        subst hnil
        have HC := Lib.hid (show cutF most (ofL side (restV L sym side)) = [] by rw [hV]; simp [cutF, ofL])
        have H3 := Lib.hid H.out.bel
        clear H HPQ HM hF hV h0 hfl
        go_wp2_with fail
        refine (rof_nil _).mono ?_
        rintro e w2 ⟨rfl, rfl⟩
        by_cases hm0 : 0 ≤ most
        · go_wp2_with fail
          go_ret
          exact ⟨_, rfl, by rw [HC.out]; exact lvrow_nil _ _, H3.out⟩
        · go_wp2_with fail
          go_ret
          exact ⟨_, rfl, by rw [HC.out]; exact lvrow_nil _ _, H3.out⟩
end Go.Proofs.Ytogjgpiddjmpiaa.Depth

/- damperlaw33.small and .back; the document's Same. -/
namespace Go.Proofs.Ytogjgpiddjmpiaa.Depth
open Go.RowKit Go.Proofs.Ytogjgpiddjmpiaa.Kit Go.Proofs.Ytogjgpiddjmpiaa.Blk Go.Proofs.Ytogjgpiddjmpiaa.Mp Go.Proofs.Ytogjgpiddjmpiaa.Msgs Go.Proofs.Ytogjgpiddjmpiaa.Octets Go.Proofs.Ytogjgpiddjmpiaa.Tape
attribute [local go_sem ↓] Go.wp_at_zero Go.wp_at_succ
set_option linter.unusedVariables false

def smallQ (m : Msg) : Bool := decide (-1125899906842624 ≤ m.qty) && decide (m.qty ≤ 1125899906842624)
def smallB (l : List Msg) : Bool := decide (l.length ≤ 120) && l.all smallQ
theorem small_bad {l : List Msg} {k : Nat} (h : k < l.length) (hq : ¬ (-1125899906842624 ≤ l[k].qty ∧ l[k].qty ≤ 1125899906842624)) : smallB l = false := by
  cases hs : smallB l with
  | false => rfl
  | true =>
    simp only [smallB, Bool.and_eq_true, List.all_eq_true, smallQ, decide_eq_true_eq] at hs
    exact absurd (hs.2 _ (List.getElem_mem h)) hq
theorem small_good {l : List Msg} (h0 : l.length ≤ 120) (h : ∀ j, (hj : j < l.length) → -1125899906842624 ≤ l[j].qty ∧ l[j].qty ≤ 1125899906842624) : smallB l = true := by
  simp only [smallB, Bool.and_eq_true, List.all_eq_true, smallQ, decide_eq_true_eq]
  refine ⟨h0, fun m hm => ?_⟩
  obtain ⟨j, hj, rfl⟩ := List.getElem_of_mem hm
  exact h j hj
theorem small_get {l : List Msg} (h : smallB l = true) : l.length ≤ 120 ∧ ∀ m ∈ l, -1125899906842624 ≤ m.qty ∧ m.qty ≤ 1125899906842624 := by
  simp only [smallB, Bool.and_eq_true, List.all_eq_true, smallQ, decide_eq_true_eq] at h
  exact h
set_option maxHeartbeats 2000000 in
theorem small_any (a : Option Addr) (cap : Nat) (l : List Msg) (w : World) (hl : l.length ≤ maxLen) (hr : MsgRow w a l) :
    Calls Try.prog 34 #[.slice a l.length cap] w fun e w' => e = .returned (.bool (smallB l)) ∧ w = w' := by
  unfold maxLen at hl
  by_cases h0 : 120 < l.length
  · have HE := Lib.hid (show smallB l = false by simp [smallB]; omega)
    go_enter Try.func34, Try.ntmps34
    go_wp2_with fail
    go_ret
    exact ⟨by rw [HE.out]; rfl, rfl⟩
  · have hl0 : ¬ (120 < (l.length : Int)) := by omega
    go_enter Try.func34, Try.ntmps34
    go_wp2_with fail
    go_loop [3] (fun i => ∃ k : Nat, k ≤ l.length ∧ i = .int .i64 k ∧ ∀ j, (hj : j < l.length) → j < k → -1125899906842624 ≤ l[j].qty ∧ l[j].qty ≤ 1125899906842624) (fun i => l.length - (intOf i).toNat)
    case atStart => exact ⟨0, by omega, rfl, fun j _ h => absurd h (by omega)⟩
    case round =>
      obtain ⟨k, hk, rfl, hno⟩ := hrel
      have HNO := Lib.hid hno
      clear hno
      by_cases hlt : k < l.length
      · obtain ⟨b, off, rfl, hb, hc⟩ := hr k hlt
        have c7 : w.cell? ⟨b, off + k * 9 + 7, none⟩ = some (.int .i64 l[k].qty) := hc 7 _ rfl
        have HBD := Lib.hid (small_bad hlt)
        have HNX := Lib.hid (show (-1125899906842624 ≤ l[k].qty ∧ l[k].qty ≤ 1125899906842624) → ∀ j, (hj : j < l.length) → j < k + 1 → -1125899906842624 ≤ l[j].qty ∧ l[j].qty ≤ 1125899906842624 from fun h j hj hjk => by
          by_cases h1 : j < k
          · exact HNO.out j hj h1
          · obtain rfl : j = k := by omega
            exact h)
        clear hc hr
        generalize l[k].qty = q at *
        have g0 : (0 : Int) ≤ (k : Int) := by omega
        have g1 : (k : Int) < (l.length : Int) := by omega
        by_cases h1 : q < -1125899906842624
        · have HE := Lib.hid (HBD.out (by omega))
          go_wp2_with fail
          go_ret
          exact ⟨by rw [HE.out]; rfl, rfl⟩
        · by_cases h2 : 1125899906842624 < q
          · have HE := Lib.hid (HBD.out (by omega))
            go_wp2_with fail
            go_ret
            exact ⟨by rw [HE.out]; rfl, rfl⟩
          · have HE := Lib.hid (HNX.out (by omega))
            go_wp2_with fail
            go_round
            case rel => exact ⟨k + 1, by omega, by go_num, HE.out⟩
            case measure => simp [intOf]; omega
      · have HE := Lib.hid (small_good (by omega) (fun j hj => HNO.out j hj (by omega)))
        go_wp2_with fail
        go_ret
        exact ⟨by rw [HE.out]; rfl, rfl⟩

theorem gl_lvrow {n0 T : Nat} {w W : World} {v : Value} {S : List Lvl} (h : GL n0 T 3 w W v S.length (rowsL S)) : LvRow W n0 v S := by
  obtain ⟨a, c, h1, h2, h3, h4⟩ := owned_at Lvl.cells 3 lvl_size h.own
  exact ⟨a, c, h1, h2, h3, fun i hi => by
    obtain ⟨g, g1, g2, g3, g4⟩ := h4 i hi
    exact ⟨g, g1, g2, g3, fun j u hu => g4 j u (by simpa using hu)⟩⟩
/-- What back answers. -/
def BackIs (S : List Lvl) (w : World) (e : Ending) (w' : World) : Prop := ∃ v, e = .returned v ∧ LvRow w' w.heap.size v S ∧ Below w.heap.size w w'
set_option maxRecDepth 20000 in
set_option maxHeartbeats 2000000 in
theorem back_any (N : Nat) (v : Value) (S : List Lvl) (w : World) (h : LvRow w N v S) (hl : S.length ≤ 1000) :
    Calls Try.prog 40 #[v] w (BackIs S w) := by
  obtain ⟨a, cap, rfl, hc1, hc2, hat⟩ := h
  unfold maxLen at hc2
  have HAT := Lib.hid hat
  clear hat
  obtain ⟨i0, hi0, hz0, hz1, hz2⟩ := info_parts infoRL
  go_enter Try.func40, Try.ntmps40
  go_wp2_with fail
  go_loopw [3, 4] (fun v i wr => ∃ k : Nat, k ≤ S.length ∧ i = .int .i64 k ∧ GL w.heap.size 94 3 w wr v (S.take k).length (rowsL (S.take k))) (fun _ i _ => S.length - (intOf i).toNat)
  case atStart => exact ⟨0, by omega, rfl, GL.start _ _ _ (Below.refl _ _) (Nat.le_refl _)⟩
  case round =>
    obtain ⟨k, hk, rfl, hgl⟩ := hrel
    have H := Lib.hid hgl
    clear hgl
    by_cases hlt : k < S.length
    · obtain ⟨g, rfl, hgn, hgw, hcell⟩ := HAT.out k hlt
      have HTK := Lib.hid (show S.take (k + 1) = S.take k ++ [S[k]] from List.take_succ_eq_append_getElem hlt)
      have hlen : (S.take k).length ≤ 1000 := by rw [List.length_take]; omega
      have HCS := Lib.hid (show ∀ W, Below w.heap.size w W → W.cell? ⟨g, k * 3, none⟩ = some (.int .i64 S[k].price) ∧ W.cell? ⟨g, k * 3 + 1, none⟩ = some (.int .i64 S[k].qty) ∧ W.cell? ⟨g, k * 3 + 2, none⟩ = some (.int .i64 S[k].ords) from fun W hb => by
        rw [hb.cell (p := ⟨g, _, none⟩) hgw, hb.cell (p := ⟨g, _, none⟩) hgw, hb.cell (p := ⟨g, _, none⟩) hgw]
        exact ⟨hcell 0 _ rfl, hcell 1 _ rfl, hcell 2 _ rfl⟩)
      clear hcell
      generalize S[k] = x at *
      generalize S.take k = F at *
      have g0 : (0 : Int) ≤ (k : Int) := by omega
      have g1 : (k : Int) < (S.length : Int) := by omega
      go_upto_region 5 with fail
      refine wp_region_held_drew (S := (fun w' => w'.cell? ⟨g, k * 3, none⟩ = some (.int .i64 x.price) ∧ w'.cell? ⟨g, k * 3 + 1, none⟩ = some (.int .i64 x.qty) ∧ w'.cell? ⟨g, k * 3 + 2, none⟩ = some (.int .i64 x.ords))) (by kernel_rfl) (HCS.out _ H.out.bel.drew) (fun hHeld => ?_)
      replace H := Lib.hid H.out.drew
      generalize wr.drew = w3 at H hHeld ⊢
      refine wpAnyH_take (i := 0) (oi := ⟨some 11, _, _, _, _, _⟩) (v := ?_) rfl (by kernel_rfl) (by kernel_rfl) (by kernel_rfl) (fun _ _ _ h => h) (Or.inl ⟨by rfl, ?_⟩) (by assumption) ?_
      rotate_left
      · (intro w hSw; (try dsimp only at hSw); go_simp; (try with_reducible rfl))
      simp only [Act.put, List.setIfInBounds_toArray, List.set_cons_zero, List.set_cons_succ]
      refine wpAnyH_take (i := 1) (oi := ⟨some 12, _, _, _, _, _⟩) (v := ?_) rfl (by kernel_rfl) (by kernel_rfl) (by kernel_rfl) (fun _ _ _ h => h) (Or.inl ⟨by rfl, ?_⟩) (by assumption) ?_
      rotate_left
      · (intro w hSw; (try dsimp only at hSw); go_simp; (try with_reducible rfl))
      simp only [Act.put, List.setIfInBounds_toArray, List.set_cons_zero, List.set_cons_succ]
      refine wpAnyH_take (i := 2) (oi := ⟨some 13, _, _, _, _, _⟩) (v := ?_) rfl (by kernel_rfl) (by kernel_rfl) (by kernel_rfl) (fun _ _ _ h => h) (Or.inl ⟨by rfl, ?_⟩) (by assumption) ?_
      rotate_left
      · (intro w hSw; (try dsimp only at hSw); go_simp; (try with_reducible rfl))
      simp only [Act.put, List.setIfInBounds_toArray, List.set_cons_zero, List.set_cons_succ]
      refine wpAnyH_take (i := 3) (oi := ⟨some 14, _, _, _, _, _⟩) (v := ?_) rfl (by kernel_rfl) (by kernel_rfl) (by kernel_rfl) (fun _ _ _ h => h) (Or.inl ⟨by rfl, ?_⟩) (by assumption) ?_
      rotate_left
      · (intro w hSw; (try dsimp only at hSw); go_simp; (try with_reducible rfl))
      simp only [Act.put, List.setIfInBounds_toArray, List.set_cons_zero, List.set_cons_succ]
      refine wpAnyH_take (i := 4) (oi := ⟨some 15, _, _, _, _, _⟩) (v := ?_) rfl (by kernel_rfl) (by kernel_rfl) (by kernel_rfl) (fun _ _ _ h => h) (Or.inl ⟨by rfl, ?_⟩) (by assumption) ?_
      rotate_left
      · (intro w hSw; (try dsimp only at hSw); go_simp; (try with_reducible rfl))
      simp only [Act.put, List.setIfInBounds_toArray, List.set_cons_zero, List.set_cons_succ]
      refine wpAnyH_take (i := 5) (oi := ⟨some 16, _, _, _, _, _⟩) (v := ?_) rfl (by kernel_rfl) (by kernel_rfl) (by kernel_rfl) (fun _ _ _ h => h) (Or.inl ⟨by rfl, ?_⟩) (by assumption) ?_
      rotate_left
      · (intro w hSw; (try dsimp only at hSw); go_simp; (try with_reducible rfl))
      simp only [Act.put, List.setIfInBounds_toArray, List.set_cons_zero, List.set_cons_succ]
      refine wpAnyH_take (i := 6) (oi := ⟨some 17, _, _, _, _, _⟩) (v := ?_) rfl (by kernel_rfl) (by kernel_rfl) (by kernel_rfl) (fun _ _ _ h => h) (Or.inl ⟨by rfl, ?_⟩) (by assumption) ?_
      rotate_left
      · (intro w hSw; (try dsimp only at hSw); go_simp; (try with_reducible rfl))
      simp only [Act.put, List.setIfInBounds_toArray, List.set_cons_zero, List.set_cons_succ]
      refine wpAnyH_take (i := 7) (oi := ⟨some 18, _, _, _, _, _⟩) (v := ?_) rfl (by kernel_rfl) (by kernel_rfl) (by kernel_rfl) (fun _ _ _ h => h) (Or.inl ⟨by rfl, ?_⟩) (by assumption) ?_
      rotate_left
      · (intro w hSw; (try dsimp only at hSw); go_simp; (try with_reducible rfl))
      simp only [Act.put, List.setIfInBounds_toArray, List.set_cons_zero, List.set_cons_succ]
      refine wpAnyH_take (i := 8) (oi := ⟨some 19, _, _, _, _, _⟩) (v := ?_) rfl (by kernel_rfl) (by kernel_rfl) (by kernel_rfl) (fun _ _ _ h => h) (Or.inl ⟨by rfl, ?_⟩) (by assumption) ?_
      rotate_left
      · (intro w hSw; (try dsimp only at hSw); go_simp; (try with_reducible rfl))
      simp only [Act.put, List.setIfInBounds_toArray, List.set_cons_zero, List.set_cons_succ]
      refine wpAnyH_take (i := 9) (oi := ⟨some 20, _, _, _, _, _⟩) (v := ?_) rfl (by kernel_rfl) (by kernel_rfl) (by kernel_rfl) (fun _ _ _ h => h) (Or.inl ⟨by rfl, ?_⟩) (by assumption) ?_
      rotate_left
      · (intro w hSw; (try dsimp only at hSw); go_simp; (try with_reducible rfl))
      simp only [Act.put, List.setIfInBounds_toArray, List.set_cons_zero, List.set_cons_succ]
      refine wpAnyH_take (i := 10) (oi := ⟨some 21, _, _, _, _, _⟩) (v := ?_) rfl (by kernel_rfl) (by kernel_rfl) (by kernel_rfl) (fun _ _ _ h => h) (Or.inl ⟨by rfl, ?_⟩) (by assumption) ?_
      rotate_left
      · (intro w hSw; (try dsimp only at hSw); go_simp; (try with_reducible rfl))
      simp only [Act.put, List.setIfInBounds_toArray, List.set_cons_zero, List.set_cons_succ]
      refine wpAnyH_take (i := 11) (oi := ⟨some 22, _, _, _, _, _⟩) (v := ?_) rfl (by kernel_rfl) (by kernel_rfl) (by kernel_rfl) (fun _ _ _ h => h) (Or.inl ⟨by rfl, ?_⟩) (by assumption) ?_
      rotate_left
      · (intro w hSw; (try dsimp only at hSw); go_simp; (try with_reducible rfl))
      simp only [Act.put, List.setIfInBounds_toArray, List.set_cons_zero, List.set_cons_succ]
      refine wpAnyH_take (i := 12) (oi := ⟨some 23, _, _, _, _, _⟩) (v := ?_) rfl (by kernel_rfl) (by kernel_rfl) (by kernel_rfl) (fun _ _ _ h => h) (Or.inl ⟨by rfl, ?_⟩) (by assumption) ?_
      rotate_left
      · (intro w hSw; (try dsimp only at hSw); go_simp; (try with_reducible rfl))
      simp only [Act.put, List.setIfInBounds_toArray, List.set_cons_zero, List.set_cons_succ]
      refine wpAnyH_take (i := 13) (oi := ⟨some 24, _, _, _, _, _⟩) (v := ?_) rfl (by kernel_rfl) (by kernel_rfl) (by kernel_rfl) (fun _ _ _ h => h) (Or.inl ⟨by rfl, ?_⟩) (by assumption) ?_
      rotate_left
      · (intro w hSw; (try dsimp only at hSw); go_simp; (try with_reducible rfl))
      simp only [Act.put, List.setIfInBounds_toArray, List.set_cons_zero, List.set_cons_succ]
      refine wpAnyH_take (i := 14) (oi := ⟨some 25, _, _, _, _, _⟩) (v := ?_) rfl (by kernel_rfl) (by kernel_rfl) (by kernel_rfl) (fun _ _ _ h => h) (Or.inl ⟨by rfl, ?_⟩) (by assumption) ?_
      rotate_left
      · (intro w hSw; (try dsimp only at hSw); go_simp; (try with_reducible rfl))
      simp only [Act.put, List.setIfInBounds_toArray, List.set_cons_zero, List.set_cons_succ]
      refine wpAnyH_take (i := 15) (oi := ⟨some 26, _, _, _, _, _⟩) (v := ?_) rfl (by kernel_rfl) (by kernel_rfl) (by kernel_rfl) (fun _ _ _ h => h) (Or.inl ⟨by rfl, ?_⟩) (by assumption) ?_
      rotate_left
      · (intro w hSw; (try dsimp only at hSw); go_simp; (try with_reducible rfl))
      simp only [Act.put, List.setIfInBounds_toArray, List.set_cons_zero, List.set_cons_succ]
      refine wpAnyH_take (i := 16) (oi := ⟨some 27, _, _, _, _, _⟩) (v := ?_) rfl (by kernel_rfl) (by kernel_rfl) (by kernel_rfl) (fun _ _ _ h => h) (Or.inl ⟨by rfl, ?_⟩) (by assumption) ?_
      rotate_left
      · (intro w hSw; (try dsimp only at hSw); go_simp; (try with_reducible rfl))
      simp only [Act.put, List.setIfInBounds_toArray, List.set_cons_zero, List.set_cons_succ]
      refine wpAnyH_ready (rs := [17]) (by kernel_rfl) (by simp) ?_
      refine AllReadyH.cons (o := ⟨some 28, _, _, _, _, _⟩) rfl (fun KK hK => ?_) AllReadyH.nil
      go_simp
      change KK _ (w3.alloc (.cells (Lvl.cells x) 94))
      have HN := Lib.hid (H.out.new (Lvl.cells x))
      clear H
      generalize w3.alloc (.cells (Lvl.cells x) 94) = WX1 at HN ⊢
      generalize w3.heap.size = nb1 at HN ⊢
      have H := Lib.hid HN.out.gl
      refine hK.out _ _ (HCS.out _ H.out.bel) (fun hHeld => ?_)
      clear hK; try clear KK
      try simp only [Act.put, List.setIfInBounds_toArray, List.set_cons_zero, List.set_cons_succ]
      refine wpAnyH_ready (rs := [18]) (by kernel_rfl) (by simp) ?_
      refine AllReadyH.cons (o := ⟨some 29, _, _, _, _, _⟩) rfl (fun KK hK => ?_) AllReadyH.nil
      clear H
      refine GN.step HN.out (by rfl) _ _ _ (by rfl) i0 (.agg #[.int .i64 0, .int .i64 0, .int .i64 0]) 24 Try.underlying77 hi0 hz0 hz1 hz2 (by rfl) (by decide) (by rfl) (by rfl) (lvl_size _) (one_mem (one_lvl _)) (by unfold maxLen; omega) (by omega) ?_
      intro g5 cap5 WX2 H'
      have H := Lib.hid H'
      clear H' HN
      refine hK.out _ _ (HCS.out _ H.out.bel) (fun hHeld => ?_)
      clear hK; try clear KK
      try simp only [Act.put, List.setIfInBounds_toArray, List.set_cons_zero, List.set_cons_succ]
      refine wpAnyH_take (i := 19) (oi := ⟨some 3, _, _, _, _, _⟩) (v := ?_) rfl (by kernel_rfl) (by kernel_rfl) (by kernel_rfl) (fun _ _ _ h => h) (Or.inl ⟨by rfl, ?_⟩) (by assumption) ?_
      rotate_left
      · (intro w hSw; (try dsimp only at hSw); go_simp; (try with_reducible rfl))
      simp only [Act.put, List.setIfInBounds_toArray, List.set_cons_zero, List.set_cons_succ]
      refine wpAnyH_done (by kernel_rfl) ?_ _
      go_wp2_with fail
      go_roundw
      case rel => exact ⟨k + 1, by omega, by go_num, by rw [HTK.out]; simpa [rowsL] using H.out⟩
      case measure => simp [intOf]; omega
    · obtain rfl : k = S.length := by omega
      rw [List.take_length] at H
      have HL := Lib.hid (gl_lvrow H.out)
      have HB := Lib.hid H.out.bel
      clear H
      go_wp2_with fail
      go_ret
      exact ⟨_, rfl, HL.out, HB.out⟩

set_option maxRecDepth 20000 in
set_option maxHeartbeats 2000000 in
theorem rsame_any (N M : Nat) (v u : Value) (S : List Lvl) (w : World) (h : LvRow w N v S) (h2 : LvRow w M u S) :
    Calls Try.prog 39 #[v, u] w fun e w' => e = .returned (.bool true) ∧ Below w.heap.size w w' := by
  obtain ⟨a, cap, rfl, hc1, hc2, hat⟩ := h
  obtain ⟨a2, cap2, rfl, hd1, hd2, hat2⟩ := h2
  unfold maxLen at hc2
  have HAT := Lib.hid hat
  have HAT2 := Lib.hid hat2
  have hlen : S.length ≤ 2 ^ 63 - 1 := by omega
  clear hat hat2 hc1 hd1 hd2
  go_enter Try.func39, Try.ntmps39
  go_wp2_with fail
  go_loopw [5] (fun i wr => ∃ k : Nat, k ≤ S.length ∧ i = .int .i64 k ∧ Below w.heap.size w wr) (fun i _ => S.length - (intOf i).toNat)
  case atStart => exact ⟨0, by omega, rfl, Below.refl _ _⟩
  case round =>
    obtain ⟨k, hk, rfl, hb⟩ := hrel
    have HB := Lib.hid hb
    clear hb
    by_cases hlt : k < S.length
    · obtain ⟨g, rfl, -, hgw, hcell⟩ := HAT.out k hlt
      obtain ⟨g2, rfl, -, hgw2, hcell2⟩ := HAT2.out k hlt
      have c0 : wr.cell? ⟨g, k * 3, none⟩ = some (.int .i64 S[k].price) := by rw [HB.out.cell (p := ⟨g, _, none⟩) hgw]; exact hcell 0 _ rfl
      have c1 : wr.cell? ⟨g, k * 3 + 1, none⟩ = some (.int .i64 S[k].qty) := by rw [HB.out.cell (p := ⟨g, _, none⟩) hgw]; exact hcell 1 _ rfl
      have c2 : wr.cell? ⟨g, k * 3 + 2, none⟩ = some (.int .i64 S[k].ords) := by rw [HB.out.cell (p := ⟨g, _, none⟩) hgw]; exact hcell 2 _ rfl
      have d0 : wr.cell? ⟨g2, k * 3, none⟩ = some (.int .i64 S[k].price) := by rw [HB.out.cell (p := ⟨g2, _, none⟩) hgw2]; exact hcell2 0 _ rfl
      have d1 : wr.cell? ⟨g2, k * 3 + 1, none⟩ = some (.int .i64 S[k].qty) := by rw [HB.out.cell (p := ⟨g2, _, none⟩) hgw2]; exact hcell2 1 _ rfl
      have d2 : wr.cell? ⟨g2, k * 3 + 2, none⟩ = some (.int .i64 S[k].ords) := by rw [HB.out.cell (p := ⟨g2, _, none⟩) hgw2]; exact hcell2 2 _ rfl
      clear hcell hcell2
      generalize S[k] = x at *
      have g0 : (0 : Int) ≤ (k : Int) := by omega
      have g1 : (k : Int) < (S.length : Int) := by omega
      go_wp2_with fail
      go_quiet (fail)
      replace HB := Lib.hid (HB.out.drewN nq)
      generalize wr.drewN nq = w2 at HB ⊢
      clear c0 c1 c2 d0 d1 d2
      go_wp2_with fail
      go_roundw
      case rel => exact ⟨k + 1, by omega, by go_num, HB.out⟩
      case measure => simp [intOf]; omega
    · go_wp2_with fail
      go_ret
      exact ⟨rfl, HB.out⟩
end Go.Proofs.Ytogjgpiddjmpiaa.Depth

/- depth.Of; what is answered of no orders. -/
namespace Go.Proofs.Ytogjgpiddjmpiaa.Depth
open Go.RowKit Go.Proofs.Ytogjgpiddjmpiaa.Kit Go.Proofs.Ytogjgpiddjmpiaa.Blk Go.Proofs.Ytogjgpiddjmpiaa.Mp Go.Proofs.Ytogjgpiddjmpiaa.Msgs Go.Proofs.Ytogjgpiddjmpiaa.Octets Go.Proofs.Ytogjgpiddjmpiaa.Tape
attribute [local go_sem ↓] Go.wp_at_zero Go.wp_at_succ
set_option linter.unusedVariables false

def ordZ : Array Value := #[.int .i64 0, .int .i64 0, .int .i64 0, .int .i64 0, .int .i64 0, .int .i64 0, .int .i64 0]
/-- Orders in a row of their own. -/
def OrdAt (w : World) (a : Option Addr) (l : List Ordr) : Prop := ∀ i, (hi : i < l.length) → ∃ g, a = some ⟨g, 0, none⟩ ∧ g < w.heap.size ∧ w.rangeAt g (i * 7) l[i].cells.toList
theorem OrdAt.below {w w' : World} {a : Option Addr} {l : List Ordr} (h : OrdAt w a l) (hb : Below w.heap.size w w') : OrdAt w' a l := fun i hi => by
  obtain ⟨g, h1, h2, h3⟩ := h i hi
  exact ⟨g, h1, Nat.lt_of_lt_of_le h2 hb.size, fun j u hu => by rw [hb.cell (p := ⟨g, _, none⟩) h2]; exact h3 j u hu⟩
def DofAt (l : List Ordr) (k bm : Nat) (w wr : World) : Prop := ∃ A, MapIs wr bm k64 lv A ∧ LvA ((l.take k).map Ordr.pq) A ∧ A.length ≤ k ∧ Below w.heap.size w wr
theorem dof_nil (v : Value) (w : World) : Calls Try.prog 43 #[.pointer none, v] w fun e w' => e = .returned (.slice none 0 0) ∧ w = w' := by
  go_enter Try.func43, Try.ntmps43
  go_wp2_with fail
  go_ret
  exact ⟨rfl, rfl⟩
theorem dof_none (D cap : Nat) (a : Option Addr) (w : World) : Calls Try.prog 43 #[.pointer (some ⟨D, 0, none⟩), .slice a 0 cap] w fun e w' => e = .returned (.slice none 0 0) ∧ w = w' := by
  go_enter Try.func43, Try.ntmps43
  go_wp2_with fail
  go_ret
  exact ⟨rfl, rfl⟩
theorem rof_none (cap : Nat) (a : Option Addr) (w : World) : Calls Try.prog 44 #[.slice a 0 cap] w fun e w' => e = .returned (.slice none 0 0) ∧ w = w' := by
  go_enter Try.func44, Try.ntmps44
  go_wp2_with fail
  go_ret
  exact ⟨rfl, rfl⟩
set_option maxRecDepth 20000 in
set_option maxHeartbeats 4000000 in
theorem dof_any (D : Nat) (side : Int) (hs : side = 0 ∨ side = 1) (l : List Ordr) (a : Option Addr) (cap : Nat) (w : World) (hl : l.length ≤ 1000) (hl0 : 0 < l.length) (hside : l[0].side = side) (hq : ∀ o ∈ l, 0 ≤ o.qty ∧ o.qty ≤ 1125899906842624) (hat : OrdAt w a l) :
    Calls Try.prog 43 #[.pointer (some ⟨D, 0, none⟩), .slice a l.length cap] w (SortIs side (l.map Ordr.pq) w) := by
  obtain ⟨gl, rfl, hgl, hr0⟩ := hat 0 hl0
  have HAT := Lib.hid (show ∀ i, (hi : i < l.length) → w.rangeAt gl (i * 7) l[i].cells.toList from fun i hi => by
    obtain ⟨g, hg, _, h⟩ := hat i hi
    injection hg with hg
    injection hg with hg
    subst hg
    exact h)
  have HQ2 := Lib.hid (show w.cell? ⟨gl, 2, none⟩ = some (.int .i64 side) by rw [← hside]; exact hr0 2 _ rfl)
  have HQ := Lib.hid hq
  have HSD := Lib.hid hs
  have hmm := @run_makeMap Try.prog
  have HM1 := Lib.hid (mapIs_new w w.heap.size rfl k64 lv)
  have HB1 := Lib.hid ((Below.refl w.heap.size w).alloc (Nat.le_refl _) (.map #[] 0))
  clear hat hr0 hq hside hs
  have hlz : ((l.length : Int) == 0) = false := by simpa using (by omega : ¬ ((l.length : Int) = 0))
  go_enter Try.func43, Try.ntmps43
  go_wp2_with fail
  go_loopw [18] (fun i wr => ∃ k : Nat, k ≤ l.length ∧ i = .int .i64 k ∧ DofAt l k w.heap.size w wr) (fun i _ => l.length - (intOf i).toNat)
  case atStart => exact ⟨0, by omega, rfl, [], HM1.out, by rw [List.take_zero]; exact lvA_nil, Nat.le_refl _, HB1.out⟩
  case round =>
    obtain ⟨k, hk, rfl, A, hm, ha, hal, hb⟩ := hrel
    have HM := Lib.hid hm
    have HA := Lib.hid ha
    have HB := Lib.hid hb
    clear hm ha hb HM1 HB1 hmm
    by_cases hlt : k < l.length
    · have hrow : wr.rangeAt gl (k * 7) l[k].cells.toList := fun j u hu => by rw [HB.out.cell (p := ⟨gl, _, none⟩) hgl]; exact HAT.out k hlt j u hu
      have hqo := HQ.out l[k] (List.getElem_mem hlt)
      have HN := Lib.hid (show (l.take (k + 1)).map Ordr.pq = (l.take k).map Ordr.pq ++ [l[k].pq] by rw [List.take_succ_eq_append_getElem hlt, List.map_append]; rfl)
      have HV := Lib.hid (show ∀ x ∈ (l.take k).map Ordr.pq, 0 ≤ x.2 ∧ x.2 ≤ 1125899906842624 from fun x hx => by
        obtain ⟨y, hy, rfl⟩ := List.mem_map.1 hx
        exact HQ.out y (List.mem_of_mem_take hy))
      have hvl : ((l.take k).map Ordr.pq).length ≤ 1000 := by simp; omega
      generalize (l.take k).map Ordr.pq = V at HN HV hvl HA
      generalize l[k] = o at hrow HN hqo
      have HSUM := Lib.hid (sum_in V 1125899906842624 (by omega) HV.out o.price)
      have HPB := Lib.hid (show 0 ≤ sumF V o.price + o.qty ∧ sumF V o.price + o.qty ≤ 9223372036854775807 from by
        have h1 := HSUM.out
        have : ((V.length : Nat) : Int) * 1125899906842624 ≤ 1000 * 1125899906842624 := Int.mul_le_mul_of_nonneg_right (by omega) (by omega)
        omega)
      have HZ := Lib.hid (Blk.new wr ordZ 85 wr.heap.size rfl)
      have HX := Lib.hid (Blk.new wr o.cells 85 wr.heap.size rfl)
      have HM2 := Lib.hid (HM.out.below ((Below.refl wr.heap.size wr).alloc (Nat.le_refl _) (.cells o.cells 85)) HM.out.lt)
      have HB2 := Lib.hid (HB.out.alloc HB.out.size (.cells o.cells 85))
      have g0 : (0 : Int) ≤ (k : Int) := by omega
      have g1 : (k : Int) < (l.length : Int) := by omega
      go_wp2_with (first
        | (refine wpList_load_mid (by rfl) 85 _ (by rfl) gl (k * 7) (by rfl) o.cells.toList _ hrow Try.underlying85 rfl (by kernel_rfl) ?_)
        | (refine store_blk (by rfl) 85 _ _ (by rfl) wr.heap.size (by rfl) ordZ o.cells 85 HZ.out (by rfl) (by rfl) (by kernel_rfl) (one_ordr o) ?_; change wpList _ _ _ _ _ (World.setCells (wr.alloc (.cells ordZ 85)) wr.heap.size 0 o.cells.toList); rw [Go.Proofs.Ytogjgpiddjmpiaa.Blk.alloc_setCells wr ordZ o.cells 85 rfl wr.heap.size rfl]; generalize wr.alloc (.cells o.cells 85) = w3 at HX HM2 HB2 ⊢; have c3 : w3.cell? ⟨wr.heap.size, 3, none⟩ = some (.int .i64 o.price) := HX.out.cell 3 rfl; have c4 : w3.cell? ⟨wr.heap.size, 4, none⟩ = some (.int .i64 o.qty) := HX.out.cell 4 rfl))
      refine (lput_any w.heap.size V A o.pq _ HM2.out HA.out HPB.out.1 HPB.out.2 (by omega)).mono ?_
      rintro e w4 ⟨rfl, hm4, hc4⟩
      have HM4 := Lib.hid hm4
      have HB4 := Lib.hid (HB2.out.trans (hc4.below' (m := w.heap.size) (Nat.le_refl _) HB2.out.size))
      clear hm4 hc4 HM2 HB2 HX
      go_wp2_with fail
      go_roundw
      case rel => exact ⟨k + 1, by omega, by go_num, _, HM4.out, by rw [HN.out]; exact (lvA_put HA.out o.pq).1, by have := putL_len A o.pq; omega, HB4.out⟩
      case measure => simp [intOf]; omega
    · obtain rfl : k = l.length := by omega
      have q2 : wr.cell? ⟨gl, 2, none⟩ = some (.int .i64 side) := by rw [HB.out.cell (p := ⟨gl, _, none⟩) hgl]; exact HQ2.out
      rw [List.take_length] at HA
      have HS := Lib.hid (sorted_any side (l.map Ordr.pq) (HSD.out.elim .inl (fun h => .inr (.inl h))) A HA.out (by omega) w.heap.size wr HM.out)
      clear HM HA
      go_wp2_with fail
      refine HS.out.mono ?_
      rintro e w2 ⟨S, v, h1, rfl, h2, h3⟩
      have H1 := Lib.hid h1
      have H2 := Lib.hid (h2.mono HB.out.size)
      have H3 := Lib.hid (HB.out.trans (h3.mono HB.out.size))
      clear h1 h2 h3 HS
      go_wp2_with fail
      go_ret
      exact ⟨S, _, H1.out, rfl, H2.out, H3.out⟩
end Go.Proofs.Ytogjgpiddjmpiaa.Depth

/- Orders as an argument: seven numbers each; a row of them in memory. -/
namespace Go.Proofs.Ytogjgpiddjmpiaa.Depth
open Go.ChangeShapes Go.WideShapes Go.Deep Go.RowKit Go.Proofs.Ytogjgpiddjmpiaa.Open Go.Proofs.Ytogjgpiddjmpiaa.Kit Go.Proofs.Ytogjgpiddjmpiaa.Blk

/-- A row of orders in memory. -/
def OrdRow (w : World) (a : Option Addr) (l : List Ordr) : Prop :=
  ∀ i, (h : i < l.length) → ∃ b off, a = some ⟨b, off, none⟩ ∧ b < w.heap.size ∧ ∀ (j : Nat) (v : Value), l[i].cells[j]? = some v → w.cell? ⟨b, off + i * 7 + j, none⟩ = some v
theorem ordRow_all {w : World} {a : Option Addr} {l : List Ordr} (hr : OrdRow w a l) {k : Nat} (hk : k < l.length) : ∃ b off, a = some ⟨b, off, none⟩ ∧ ∀ W, Below w.heap.size w W → W.rangeAt b (off + k * 7) l[k].cells.toList := by
  obtain ⟨b, off, ha, hb, hc⟩ := hr k hk
  exact ⟨b, off, ha, fun W h j u hu => by rw [h.cell (p := ⟨b, _, none⟩) hb]; exact hc j u (by simpa using hu)⟩
section
variable {H : Type} {enc : TypeId × Value → H} {w : World} {base : Nat} {spare : Nat → Bool} {held : Bool}
def ordrOf (f : Nat → Int) : Ordr := ⟨f 0, f 1, f 2, f 3, f 4, f 5, f 6⟩
theorem ordrOf_cells (f : Nat → Int) (j : Nat) (v : Value) (h : (ordrOf f).cells[j]? = some v) : j < 7 ∧ v = .int .i64 (f j) := by
  have hj : j < 7 := (Array.getElem?_eq_some_iff.1 h).1
  refine ⟨hj, ?_⟩
  have : j = 0 ∨ j = 1 ∨ j = 2 ∨ j = 3 ∨ j = 4 ∨ j = 5 ∨ j = 6 := by omega
  rcases this with rfl | rfl | rfl | rfl | rfl | rfl | rfl <;> (simp [ordrOf, Ordr.cells] at h; exact h.symm)
theorem sOrd : Try.prog.cellsOf 85 = 7 := by kernel_rfl
set_option maxRecDepth 100000 in
theorem open_ordrs {r : Reach} {b0 : Nat} {v : Value} {d : DataW H} {p : List MemPlace} (hv : Value.okWide Try.prog w r b0 83 v) (h : DataW.Trod enc Try.prog w base spare held 83 v d p) :
    ∃ (a : Option Addr) (cap : Nat) (l : List Ordr), v = .slice a l.length cap ∧ l.length ≤ maxLen ∧ OrdRow w a l := by
  obtain ⟨a0, n0, c0, rfl⟩ := okWide_slice Try.underlying83 hv
  obtain ⟨fuel, hf⟩ := h
  have hf' : DataW.trod enc Try.prog w base spare held fuel 83 [.slice a0 n0 c0] = some (d, p) := hf
  obtain ⟨a, n, cap, F, he, hmx, hF⟩ := open_rows Try.underlying83 Try.underlying85 (by kernel_rfl) sOrd (by decide) (by intro f hf; simp only [List.mem_cons, List.not_mem_nil, or_false] at hf; rcases hf with rfl | rfl | rfl | rfl | rfl | rfl | rfl <;> first | exact Try.underlying2 | exact Try.underlying3) hf'
  refine ⟨a, cap, (List.range n).map fun i => ordrOf (F i), by rw [he]; simp, by simpa using hmx, ?_⟩
  intro i hi
  simp only [List.length_map, List.length_range] at hi
  obtain ⟨b, off, hb, hl, hc⟩ := hF i hi
  refine ⟨b, off, hb, hl, fun j v hv => ?_⟩
  simp only [List.getElem_map, List.getElem_range] at hv
  obtain ⟨hj, hv⟩ := ordrOf_cells (F i) j v hv
  rw [hv]
  exact (hc j hj).1
end
end Go.Proofs.Ytogjgpiddjmpiaa.Depth

/- damperlaw33.DepthPlays: the walk. -/
namespace Go.Proofs.Ytogjgpiddjmpiaa.Depth
open Go.RowKit Go.Proofs.Ytogjgpiddjmpiaa.Kit Go.Proofs.Ytogjgpiddjmpiaa.Blk Go.Proofs.Ytogjgpiddjmpiaa.Mp Go.Proofs.Ytogjgpiddjmpiaa.Msgs Go.Proofs.Ytogjgpiddjmpiaa.Octets Go.Proofs.Ytogjgpiddjmpiaa.Tape
attribute [local go_sem ↓] Go.wp_at_zero Go.wp_at_succ
set_option linter.unusedVariables false

theorem RS.chg {N R d n : Nat} {W W' : World} {L : List (Key × Rest)} (h : RS N W R L) (hc : Chg W.heap.size d W W') (hd : d < N) (hR : R ≠ d) : RS N W' R L := by
  obtain ⟨v, h1, h2, h3, h4⟩ := h
  exact ⟨v, hc.blk h1.lt hR h1, h2, h3.kept (row := some d) ⟨hc.os, hc.tape, hc.output, hc.size, fun k hk hne => hc.block k hk (fun e => hne (congrArg some e))⟩ (.inr (fun e => by have := (h3.lt _ e).1; omega)), h4⟩
/-- Both depths: the program's and the document's. -/
structure PS (w W : World) (D b N R : Nat) (L M : List (Key × Rest)) : Prop where
  ds : DS W D b L
  rs : RS N W R M
  bel : Below w.heap.size w W
  geb : w.heap.size ≤ b
  geR : w.heap.size ≤ R
  bN : b < N
  Rb : R ≠ b
  RD : R ≠ D
  le : N ≤ W.heap.size
section
variable {w W W' : World} {D b N R : Nat} {L L' M M' : List (Key × Rest)}
theorem PS.below (h : PS w W D b N R L M) (hb : Below W.heap.size W W') : PS w W' D b N R L M :=
  ⟨h.ds.below hb, h.rs.below hb, h.bel.trans (hb.mono h.bel.size), h.geb, h.geR, h.bN, h.Rb, h.RD, Nat.le_trans h.le hb.size⟩
theorem PS.put (h : PS w W D b N R L M) (hd : DS W' D b L') (hc : Chg W.heap.size b W W') : PS w W' D b N R L' M :=
  ⟨hd, h.rs.chg (n := 0) hc h.bN h.Rb, h.bel.trans (hc.below' (m := w.heap.size) h.geb h.bel.size), h.geb, h.geR, h.bN, h.Rb, h.RD, Nat.le_trans h.le hc.size⟩
theorem PS.rput (h : PS w W D b N R L M) (hr : RS N W' R M') (hc : Chg W.heap.size R W W') : PS w W' D b N R L M' :=
  ⟨⟨hc.blk h.ds.box.lt (Ne.symm h.RD) h.ds.box, h.ds.map.chg hc h.ds.map.lt (Ne.symm h.Rb)⟩, hr, h.bel.trans (hc.below' (m := w.heap.size) h.geR h.bel.size), h.geb, h.geR, h.bN, h.Rb, h.RD, Nat.le_trans h.le hc.size⟩
theorem PS.drew (h : PS w W D b N R L M) : PS w W.drew D b N R L M := h.below (Below.refl _ _).drew
end
theorem less_len0 (L : List (Key × Rest)) (k : Key) (q : Int) : (lessF L k q).1.length ≤ L.length := by
  cases hk : mget k L with
  | none => rw [less_no hk]; simp
  | some x =>
    obtain ⟨hi, -⟩ := midx_at hk
    unfold lessF
    rw [hk]
    dsimp only
    split
    · rw [mput_at hk]; simp; omega
    · rw [mdel_at hk]; simp; omega
theorem put_len (L : List (Key × Rest)) (m : Msg) : (putF L m).1.length ≤ L.length + 1 := by
  unfold putF
  split
  · split
    · simp
    · exact mput_len _ _ _
  · split
    · split
      · simp
      · split
        · exact Nat.le_trans (less_len0 _ _ _) (Nat.le_succ _)
        · exact Nat.le_trans (less_len0 _ _ _) (Nat.le_trans (less_len0 _ _ _) (Nat.le_succ _))
    · split
      · split
        · simp
        · exact Nat.le_trans (less_len0 _ _ _) (Nat.le_succ _)
      · simp
theorem ps_new {w w1 : World} (hd : DS w1 (w.heap.size + 1) w.heap.size []) (hb : Below w.heap.size w w1) :
    PS w (w1.alloc (.cells #[.slice none 0 0] 74)) (w.heap.size + 1) w.heap.size (w1.heap.size + 1) w1.heap.size [] [] := by
  have h1 := hd.box.lt
  refine ⟨hd.alloc _, ⟨_, Blk.new _ _ _ _ rfl, by omega, World.ownsRow_nil _ _ _ _, fun _ => rfl⟩, hb.alloc hb.size _, Nat.le_refl _, hb.size, by omega, by omega, by omega, by simp⟩
theorem levels_same {L : List (Key × Rest)} {sym side : Int} (hs : side = 0 ∨ side = 1) {S : List Lvl} (h : LvS side (restV L sym side) S) : S = ofL side (restV L sym side) :=
  lvS_unique (List.Perm.refl _) h (lvS_ofL hs _)
/-- The row of messages in all later worlds. -/
theorem row_all {w : World} {a : Option Addr} {l : List Msg} (hr : MsgRow w a l) {k : Nat} (hk : k < l.length) : ∃ b off, a = some ⟨b, off, none⟩ ∧ ∀ W, Below w.heap.size w W → W.rangeAt b (off + k * 9) l[k].cells.toList := by
  obtain ⟨b, off, ha, hb, hc⟩ := msgRow_at hr k hk
  exact ⟨b, off, ha, fun W h j u hu => by rw [h.cell (p := ⟨b, _, none⟩) hb]; exact hc j u hu⟩
theorem cut_len {S : List Lvl} {most : Int} {n : Nat} (h : S.length ≤ n) : (cutF most S).length ≤ n := by
  unfold cutF; split
  · rw [List.length_take]; omega
  · exact h
theorem ofL_len (side : Int) (V : List PQ) : (ofL side V).length ≤ V.length := by
  have : ∀ V : List PQ, (ofL side V.reverse).length ≤ V.reverse.length := fun V => by
    induction V with
    | nil => simp [ofL]
    | cons x V ih =>
      rw [List.reverse_cons, ofL_snoc]
      have : ∀ S : List Lvl, (insL side S x).length ≤ S.length + 1 := fun S => by
        induction S with
        | nil => simp [insL]
        | cons y S ih =>
          unfold insL
          split
          · simp
          · split
            · simp
            · simp; exact ih
      have := this (ofL side V.reverse)
      simp only [List.length_append, List.length_cons, List.length_nil]
      omega
  have h := this V.reverse
  rwa [List.reverse_reverse] at h
set_option maxRecDepth 20000 in
set_option maxHeartbeats 8000000 in
theorem plays_law (a : Option Addr) (cap : Nat) (l : List Msg) (sym most : Int) (w : World) (hr : MsgRow w a l) (hl : l.length ≤ maxLen) :
    Calls Try.prog 8 #[.slice a l.length cap, .int .i64 sym, .int .i64 most] w fun e w' => e = .returned (.bool true) ∧ Below w.heap.size w w' := by
  have HS := Lib.hid (small_any a cap l w hl hr)
  have HR := Lib.hid hr
  cases hsm : smallB l with
  | false =>
    rw [hsm] at HS
    clear hr hl hsm
    go_enter Try.func8, Try.ntmps8
    go_wp2_with fail
    refine HS.out.mono ?_
    rintro e w1 ⟨rfl, rfl⟩
    go_wp2_with fail
    refine (alive_any _).mono ?_
    rintro e w2 ⟨rfl, hb⟩
    go_wp2_with fail
    go_ret
    exact ⟨rfl, hb⟩
  | true =>
    rw [hsm] at HS
    obtain ⟨hl1, hq⟩ := small_get hsm
    have HQS := Lib.hid hq
    clear hr hl hsm hq
    go_enter Try.func8, Try.ntmps8
    go_wp2_with fail
    refine HS.out.mono ?_
    rintro e w1 ⟨rfl, rfl⟩
    clear HS
    go_wp2_with fail
    refine (new_any w).mono ?_
    rintro e w1 ⟨rfl, hd, hb⟩
    have H := Lib.hid (ps_new hd hb)
    clear hd hb
    go_wp2_with fail
    generalize w1.alloc (.cells #[.slice none 0 0] 74) = w2 at H ⊢
    generalize w.heap.size + 1 = D at H ⊢
    generalize hN : w1.heap.size + 1 = N at H ⊢
    have HN := Lib.hid hN
    clear hN
    generalize w1.heap.size = R at H HN ⊢
    obtain ⟨b, hb⟩ : ∃ b, b = w.heap.size := ⟨_, rfl⟩
    rw [← hb] at H
    go_loopw [9] (fun i wr => ∃ k : Nat, k ≤ l.length ∧ i = .int .i64 k ∧ ∃ L, PS w wr D b N R L L ∧ OkL L ∧ L.length ≤ k) (fun i _ => l.length - (intOf i).toNat)
    case atStart => exact ⟨0, by omega, rfl, [], H.out, fun p hp => by simp at hp, by simp⟩
    case round =>
      clear H HN
      obtain ⟨k, hk, rfl, L, hps, hok, hlen⟩ := hrel
      have H := Lib.hid hps
      have HOK := Lib.hid hok
      clear hps hok
      by_cases hlt : k < l.length
      · obtain ⟨gb, off, rfl, hrow⟩ := row_all HR.out hlt
        have HROW := Lib.hid hrow
        have HQ := Lib.hid (HQS.out l[k] (List.getElem_mem hlt)).2
        clear hrow
        generalize l[k] = m at *
        have g0 : (0 : Int) ≤ (k : Int) := by omega
        have g1 : (k : Int) < (l.length : Int) := by omega
        have HE := Lib.hid (show OkL (putF L m).1 ∧ (putF L m).1.length ≤ k + 1 from ⟨ok_put HOK.out m HQ.out, by have := put_len L m; omega⟩)
        go_upto_region 8 with fail
        refine wp_region_held_drew (S := (fun w' => w'.rangeAt gb (off + k * 9) m.cells.toList)) (by kernel_rfl) (HROW.out _ H.out.bel.drew) (fun hHeld => ?_)
        replace H := Lib.hid H.out.drew
        generalize wr.drew = w3 at H hHeld ⊢
        refine wpAnyH_take (i := 0) (oi := ⟨some 24, _, _, _, _, _⟩) (v := ?_) rfl (by kernel_rfl) (by kernel_rfl) (by kernel_rfl) (fun _ _ _ h => h) (Or.inl ⟨by rfl, ?_⟩) (by assumption) ?_
        rotate_left
        · (intro w hSw; (try dsimp only at hSw); go_simp; (try with_reducible rfl))
        simp only [Act.put, List.setIfInBounds_toArray, List.set_cons_zero, List.set_cons_succ]
        refine wpAnyH_take (i := 1) (oi := ⟨some 25, _, _, _, _, _⟩) (v := ?_) rfl (by kernel_rfl) (by kernel_rfl) (by kernel_rfl) (fun _ _ _ h => h) (Or.inl ⟨by rfl, ?_⟩) (by assumption) ?_
        rotate_left
        · (intro w hSw; (try dsimp only at hSw); go_simp; (try with_reducible rfl))
        simp only [Act.put, List.setIfInBounds_toArray, List.set_cons_zero, List.set_cons_succ]
        refine wpAnyH_take (i := 2) (oi := ⟨some 26, _, _, _, _, _⟩) (v := ?_) rfl (by kernel_rfl) (by kernel_rfl) (by kernel_rfl) (fun _ _ _ h => h) (Or.inl ⟨by rfl, ?_⟩) (by assumption) ?_
        rotate_left
        · (intro w hSw; (try dsimp only at hSw); go_simp; (try with_reducible rfl))
        simp only [Act.put, List.setIfInBounds_toArray, List.set_cons_zero, List.set_cons_succ]
        refine wpAnyH_take (i := 3) (oi := ⟨some 27, _, _, _, _, _⟩) (v := ?_) rfl (by kernel_rfl) (by kernel_rfl) (by kernel_rfl) (fun _ _ _ h => h) (Or.inl ⟨by rfl, ?_⟩) (by assumption) ?_
        rotate_left
        · (intro w hSw; (try dsimp only at hSw); go_simp; (try with_reducible rfl))
        simp only [Act.put, List.setIfInBounds_toArray, List.set_cons_zero, List.set_cons_succ]
        refine wpAnyH_take (i := 4) (oi := ⟨some 28, .load 66 (.tmp 27), _, _, _, _⟩) (v := _) rfl (by kernel_rfl) (by kernel_rfl) (by kernel_rfl) (fun _ _ _ h => h) (yieldsIf_load_mid (by rfl) _ _ rfl _ _ rfl _ _ (fun w h => h) Try.underlying66 rfl (by kernel_rfl)) (by assumption) ?_
        simp only [Act.put, List.setIfInBounds_toArray, List.set_cons_zero, List.set_cons_succ]
        refine wpAnyH_take (i := 6) (oi := ⟨some 30, _, _, _, _, _⟩) (v := ?_) rfl (by kernel_rfl) (by kernel_rfl) (by kernel_rfl) (fun _ _ _ h => h) (Or.inl ⟨by rfl, ?_⟩) (by assumption) ?_
        rotate_left
        · (intro w hSw; (try dsimp only at hSw); go_simp; (try with_reducible rfl))
        simp only [Act.put, List.setIfInBounds_toArray, List.set_cons_zero, List.set_cons_succ]
        refine wpAnyH_take (i := 7) (oi := ⟨some 31, _, _, _, _, _⟩) (v := ?_) rfl (by kernel_rfl) (by kernel_rfl) (by kernel_rfl) (fun _ _ _ h => h) (Or.inl ⟨by rfl, ?_⟩) (by assumption) ?_
        rotate_left
        · (intro w hSw; (try dsimp only at hSw); go_simp; (try with_reducible rfl))
        simp only [Act.put, List.setIfInBounds_toArray, List.set_cons_zero, List.set_cons_succ]
        refine wpAnyH_take (i := 8) (oi := ⟨some 32, _, _, _, _, _⟩) (v := ?_) rfl (by kernel_rfl) (by kernel_rfl) (by kernel_rfl) (fun _ _ _ h => h) (Or.inl ⟨by rfl, ?_⟩) (by assumption) ?_
        rotate_left
        · (intro w hSw; (try dsimp only at hSw); go_simp; (try with_reducible rfl))
        simp only [Act.put, List.setIfInBounds_toArray, List.set_cons_zero, List.set_cons_succ]
        refine wpAnyH_take (i := 9) (oi := ⟨some 33, _, _, _, _, _⟩) (v := ?_) rfl (by kernel_rfl) (by kernel_rfl) (by kernel_rfl) (fun _ _ _ h => h) (Or.inl ⟨by rfl, ?_⟩) (by assumption) ?_
        rotate_left
        · (intro w hSw; (try dsimp only at hSw); go_simp; (try with_reducible rfl))
        simp only [Act.put, List.setIfInBounds_toArray, List.set_cons_zero, List.set_cons_succ]
        refine wpAnyH_take (i := 10) (oi := ⟨some 34, .load 66 (.tmp 33), _, _, _, _⟩) (v := _) rfl (by kernel_rfl) (by kernel_rfl) (by kernel_rfl) (fun _ _ _ h => h) (yieldsIf_load_mid (by rfl) _ _ rfl _ _ rfl _ _ (fun w h => h) Try.underlying66 rfl (by kernel_rfl)) (by assumption) ?_
        simp only [Act.put, List.setIfInBounds_toArray, List.set_cons_zero, List.set_cons_succ]
        refine wpAnyH_ready (rs := [5]) (by kernel_rfl) (by simp) ?_
        refine AllReadyH.cons (o := ⟨some 29, _, _, _, _, _⟩) rfl (fun KK hK => ?_) AllReadyH.nil
        go_simp
        refine (put_any D b L m w3 H.out.ds HOK.out HQ.out).mono ?_
        rintro e WX1 ⟨rfl, hd, hc⟩
        replace H := Lib.hid (H.out.put hd hc)
        clear hd hc
        go_wp2_with fail
        refine hK.out _ _ (HROW.out _ H.out.bel) (fun hHeld => ?_)
        clear hK; try clear KK
        try simp only [Act.put, List.setIfInBounds_toArray, List.set_cons_zero, List.set_cons_succ]
        refine wpAnyH_ready (rs := [11]) (by kernel_rfl) (by simp) ?_
        refine AllReadyH.cons (o := ⟨some 35, _, _, _, _, _⟩) rfl (fun KK hK => ?_) AllReadyH.nil
        go_simp
        refine (rput_any N R L m WX1 H.out.rs H.out.le HOK.out (by omega) HQ.out).mono ?_
        rintro e WX2 ⟨rfl, hd, hc⟩
        replace H := Lib.hid (H.out.rput hd hc)
        clear hd hc
        go_wp2_with fail
        refine hK.out _ _ (HROW.out _ H.out.bel) (fun hHeld => ?_)
        clear hK; try clear KK
        try simp only [Act.put, List.setIfInBounds_toArray, List.set_cons_zero, List.set_cons_succ]
        refine wpAnyH_take (i := 12) (oi := ⟨some 36, _, _, _, _, _⟩) (v := ?_) rfl (by kernel_rfl) (by kernel_rfl) (by kernel_rfl) (fun _ _ _ h => h) (Or.inl ⟨by rfl, ?_⟩) (by assumption) ?_
        rotate_left
        · (intro w hSw; (try dsimp only at hSw); go_simp; (try with_reducible rfl))
        simp only [Act.put, List.setIfInBounds_toArray, List.set_cons_zero, List.set_cons_succ]
        refine wpAnyH_done (by kernel_rfl) ?_ _
        clear HOK HQ HROW hHeld
        generalize putF L m = P at H HE ⊢
        have hP : P.1.length ≤ k + 1 := HE.out.2
        have HOK := Lib.hid HE.out.1
        clear HE
        go_wp2_with fail
        go_loopw [10] (fun i wr => ∃ j : Nat, j ≤ 2 ∧ i = .int .i64 j ∧ PS w wr D b N R P.1 P.1) (fun i _ => 2 - (intOf i).toNat)
        case atStart => exact ⟨0, by omega, rfl, H.out⟩
        case round =>
          clear H
          obtain ⟨j, hj, rfl, hp⟩ := hrel
          have H := Lib.hid hp
          clear hp
          by_cases hj2 : j < 2
          · have HSD := Lib.hid (show (j : Int) = 0 ∨ (j : Int) = 1 by omega)
            have HCL := Lib.hid (show ∀ most, (cutF most (ofL (j : Int) (restV P.1 sym (j : Int)))).length ≤ 1000 from fun most => cut_len (by have := ofL_len (j : Int) (restV P.1 sym (j : Int)); have := restV_len P.1 sym (j : Int); omega))
            go_wp2_with fail
            refine (levels_any D b P.1 sym (j : Int) most _ H.out.ds HOK.out (by omega)).mono ?_
            rintro e w2 ⟨S, v, h1, rfl, h2, h3⟩
            obtain rfl := levels_same HSD.out h1
            replace H := Lib.hid (H.out.below h3)
            have HV := Lib.hid h2
            clear h1 h2 h3
            go_wp2_with fail
            refine (back_any _ v _ _ HV.out (HCL.out _)).mono ?_
            rintro e w3 ⟨v3, rfl, h2, h3⟩
            replace H := Lib.hid (H.out.below h3)
            have HV3 := Lib.hid h2
            clear h2 h3 HV
            go_wp2_with fail
            refine (rlevels_any N R P.1 sym (j : Int) most _ H.out.rs HOK.out (by omega) HSD.out).mono ?_
            rintro e w4 ⟨v4, rfl, h2, h3⟩
            replace H := Lib.hid (H.out.below h3)
            replace HV3 := Lib.hid (HV3.out.below h3)
            have HV4 := Lib.hid h2
            clear h2 h3
            go_wp2_with fail
            refine (rsame_any _ _ v3 v4 _ _ HV3.out HV4.out).mono ?_
            rintro e w5 ⟨rfl, h3⟩
            replace H := Lib.hid (H.out.below h3)
            clear h3 HV3 HV4
            go_wp2_with fail
            refine (levels_any D b P.1 sym (j : Int) (-1) _ H.out.ds HOK.out (by omega)).mono ?_
            rintro e w2 ⟨S, v, h1, rfl, h2, h3⟩
            obtain rfl := levels_same HSD.out h1
            replace H := Lib.hid (H.out.below h3)
            have HV := Lib.hid h2
            clear h1 h2 h3
            go_wp2_with fail
            refine (back_any _ v _ _ HV.out (HCL.out _)).mono ?_
            rintro e w3 ⟨v3, rfl, h2, h3⟩
            replace H := Lib.hid (H.out.below h3)
            have HV3 := Lib.hid h2
            clear h2 h3 HV
            go_wp2_with fail
            refine (rlevels_any N R P.1 sym (j : Int) (-1) _ H.out.rs HOK.out (by omega) HSD.out).mono ?_
            rintro e w4 ⟨v4, rfl, h2, h3⟩
            replace H := Lib.hid (H.out.below h3)
            replace HV3 := Lib.hid (HV3.out.below h3)
            have HV4 := Lib.hid h2
            clear h2 h3
            go_wp2_with fail
            refine (rsame_any _ _ v3 v4 _ _ HV3.out HV4.out).mono ?_
            rintro e w5 ⟨rfl, h3⟩
            replace H := Lib.hid (H.out.below h3)
            clear h3 HV3 HV4
            go_wp2_with fail
            go_roundw
            case rel => exact ⟨j + 1, by omega, by go_num, H.out⟩
            case measure => simp [intOf]; omega
          · obtain rfl : j = 2 := by omega
            go_wp2_with fail
            go_roundw
            case rel => exact ⟨k + 1, by omega, by go_num, P.1, H.out, HOK.out, hP⟩
            case measure => simp [intOf]; omega
      · have HL := Lib.hid (levels_any D b L sym 2 (-1) wr H.out.ds HOK.out (by omega))
        have HV2 := Lib.hid (show restV L sym 2 = [] from by
          rcases restV_side HOK.out sym 2 with h | h | h
          · exact absurd h (by decide)
          · exact absurd h (by decide)
          · exact h)
        go_wp2_with fail
        refine HL.out.mono ?_
        rintro e w3 ⟨S, v, h1, rfl, h2, h3⟩
        rw [HV2.out] at h1
        have hS : S = [] := by
          cases S with
          | nil => rfl
          | cons x S => have := ((h1.mem x).1 List.mem_cons_self).1; simp at this
        subst hS
        obtain ⟨a3, c3, rfl, -⟩ := h2
        replace H := Lib.hid (H.out.below h3)
        clear h1 h3 HL HV2
        go_wp2_with fail
        refine (alive_any _).mono ?_
        rintro e w4 ⟨rfl, hb4⟩
        have HB := Lib.hid (H.out.below hb4).bel
        clear hb4
        go_wp2_with fail
        go_ret
        exact ⟨rfl, HB.out⟩
end Go.Proofs.Ytogjgpiddjmpiaa.Depth

/- damperlaw33.DepthOrders: the walk. -/
namespace Go.Proofs.Ytogjgpiddjmpiaa.Depth
open Go.RowKit Go.Proofs.Ytogjgpiddjmpiaa.Kit Go.Proofs.Ytogjgpiddjmpiaa.Blk Go.Proofs.Ytogjgpiddjmpiaa.Mp Go.Proofs.Ytogjgpiddjmpiaa.Msgs Go.Proofs.Ytogjgpiddjmpiaa.Octets Go.Proofs.Ytogjgpiddjmpiaa.Tape
attribute [local go_sem ↓] Go.wp_at_zero Go.wp_at_succ
set_option linter.unusedVariables false

/-- An order as the statement turns it. -/
def sideO (side : Int) (o : Ordr) : Ordr := ⟨o.id, o.owner, side, o.price, o.qty, o.flags, o.seq⟩
def oneO (o : Ordr) : Ordr := ⟨o.id, o.owner, o.side, o.price, 1, o.flags, o.seq⟩
def normO (side : Int) (o : Ordr) : Ordr := if o.qty < 0 ∨ 4294967296 < o.qty then oneO (sideO side o) else sideO side o
def rowsQ (l : List Ordr) : List Value := l.flatMap fun x => x.cells.toList
theorem rowsQ_app (l : List Ordr) (x : Ordr) : rowsQ (l ++ [x]) = rowsQ l ++ x.cells.toList := by simp [rowsQ]
theorem infoO : (Try.prog.info? 85).map (fun i => (i.zero, i.size, i.bytes)) = some (some (.agg ordZ), 7, 56) := by kernel_rfl
theorem gl_ordAt {n0 : Nat} {w W : World} {v : Value} {S : List Ordr} (h : GL n0 85 7 w W v S.length (rowsQ S)) : ∃ a c, v = .slice a S.length c ∧ OrdAt W a S := by
  obtain ⟨a, c, h1, h2, h3, h4⟩ := owned_at Ordr.cells 7 ordr_size h.own
  exact ⟨a, c, h1, fun i hi => by
    obtain ⟨g, g1, g2, g3, g4⟩ := h4 i hi
    exact ⟨g, g1, g3, g4⟩⟩
def LoopIs (l : List Ordr) (side : Int) (w : World) (v : Value) (k : Nat) (wr : World) : Prop :=
  GL w.heap.size 85 7 w wr v ((l.take k).map (normO side)).length (rowsQ ((l.take k).map (normO side)))
theorem norm_side (side : Int) (o : Ordr) : (normO side o).side = side := by unfold normO; split <;> rfl
theorem norm_qty (side : Int) (o : Ordr) : 0 ≤ (normO side o).qty ∧ (normO side o).qty ≤ 1125899906842624 := by
  unfold normO
  split
  · show (0 : Int) ≤ 1 ∧ (1 : Int) ≤ 1125899906842624; omega
  · show 0 ≤ o.qty ∧ o.qty ≤ 1125899906842624; omega
set_option maxRecDepth 20000 in
set_option maxHeartbeats 8000000 in
theorem orders_yes (a : Option Addr) (cap : Nat) (l : List Ordr) (side : Int) (w : World) (hr : OrdRow w a l) (hl : l.length ≤ 60) (hs : side = 0 ∨ side = 1) :
    Calls Try.prog 9 #[.slice a l.length cap, .int .i64 side] w fun e w' => e = .returned (.bool true) ∧ Below w.heap.size w w' := by
  have HR := Lib.hid hr
  clear hr
  have hl60 : ¬ 60 < (l.length : Int) := by omega
  by_cases h0 : side = 0
  · have b0 : (side != 0) = false := by simp [h0]
    clear h0
    go_enter Try.func9, Try.ntmps9
    go_wp2_with fail
    go_loopw [5, 6] (fun v i wr => ∃ k : Nat, k ≤ l.length ∧ i = .int .i64 k ∧ LoopIs l side w v k wr) (fun _ i _ => l.length - (intOf i).toNat)
    case atStart => exact ⟨0, by omega, rfl, GL.start _ _ _ (Below.refl _ _) (Nat.le_refl _)⟩
    case round =>
      obtain ⟨k, hk, rfl, hgl⟩ := hrel
      have H := Lib.hid hgl
      clear hgl
      unfold LoopIs at H
      by_cases hlt : k < l.length
      · obtain ⟨gb, off, rfl, hrow0⟩ := ordRow_all HR.out hlt
        have hrow := hrow0 wr H.out.bel
        have HTK := Lib.hid (show (l.take (k + 1)).map (normO side) = (l.take k).map (normO side) ++ [normO side l[k]] by rw [List.take_succ_eq_append_getElem hlt, List.map_append]; rfl)
        have hlen : ((l.take k).map (normO side)).length ≤ 60 := by simp; omega
        clear hrow0
        generalize (l.take k).map (normO side) = F at H HTK hlen
        generalize l[k] = o at hrow HTK
        obtain ⟨i0, hi0, hz0, hz1, hz2⟩ := info_parts infoO
        have HZ := Lib.hid (Blk.new wr ordZ 85 wr.heap.size rfl)
        have g0 : (0 : Int) ≤ (k : Int) := by omega
        have g1 : (k : Int) < (l.length : Int) := by omega
        have HX := Lib.hid (Blk.new wr o.cells 85 wr.heap.size rfl)
        have HB3 := Lib.hid ((Below.refl wr.heap.size wr).alloc (Nat.le_refl _) (.cells o.cells 85))
        by_cases h1 : o.qty < 0
        · have HNO := Lib.hid (show normO side o = oneO (sideO side o) by unfold normO; rw [if_pos (.inl h1)])
          go_wp2_with (with_reducible (show wpList _ _ _ (⟨some 30, _, _, _, _, _⟩ :: _) _ _); refine stopAt ?_)
          unfold StopAt
          refine wpList_load_mid (by rfl) 85 _ (by rfl) gb (off + k * 7) (by rfl) o.cells.toList _ hrow Try.underlying85 rfl (by kernel_rfl) ?_
          go_wp2_with (first
            | (refine store_blk (by rfl) 85 _ _ (by rfl) wr.heap.size (by rfl) ordZ o.cells 85 HZ.out (by rfl) (by rfl) (by kernel_rfl) (one_ordr o) ?_; change wpList _ _ _ _ _ (World.setCells (wr.alloc (.cells ordZ 85)) wr.heap.size 0 o.cells.toList); rw [Go.Proofs.Ytogjgpiddjmpiaa.Blk.alloc_setCells wr ordZ o.cells 85 rfl wr.heap.size rfl]; generalize wr.alloc (.cells o.cells 85) = w3 at HX HB3 ⊢; clear HZ; have c2 : w3.cell? ⟨wr.heap.size, 2, none⟩ = some (.int .i64 o.side) := HX.out.cell 2 rfl; have c4 : w3.cell? ⟨wr.heap.size, 4, none⟩ = some (.int .i64 o.qty) := HX.out.cell 4 rfl; have f2 := HX.out.free 2; have f4 := HX.out.free 4)
            | (with_reducible (show wpList _ _ _ (⟨some 43, _, _, _, _, _⟩ :: _) _ _); refine stopAt ?_))
          unfold StopAt
          have HX2 := Lib.hid (show Blk ((w3.setCell ⟨wr.heap.size, 2, none⟩ (.int .i64 side)).setCell ⟨wr.heap.size, 4, none⟩ (.int .i64 1)) wr.heap.size (oneO (sideO side o)).cells 85 from (HX.out.set 2 _).set 4 _)
          have HB4 := Lib.hid ((HB3.out.setCell (Nat.le_refl _) (.int .i64 side) (p := ⟨wr.heap.size, 2, none⟩)).setCell (Nat.le_refl _) (.int .i64 1) (p := ⟨wr.heap.size, 4, none⟩))
          generalize (w3.setCell ⟨wr.heap.size, 2, none⟩ (.int .i64 side)).setCell ⟨wr.heap.size, 4, none⟩ (.int .i64 1) = w4 at HX2 HB4 ⊢
          clear HX HB3 c2 c4 f2 f4
          have HX := Lib.hid HX2.out
          have HNB := Lib.hid ((H.out.below HB4.out).new (oneO (sideO side o)).cells)
          clear HX2 HB4 H
          refine load_blk (by rfl) 85 _ (by rfl) wr.heap.size (by rfl) (#[.int .i64 o.id, .int .i64 o.owner, .int .i64 side, .int .i64 o.price, .int .i64 1, .int .i64 o.flags, .int .i64 o.seq]) 85 HX.out _ Try.underlying85 rfl (by kernel_rfl) ?_
          go_wp2_with (with_reducible (show wpList _ _ _ (⟨some 45, _, _, _, _, _⟩ :: _) _ _); refine stopAt ?_)
          unfold StopAt
          change wpList _ _ _ _ _ (w4.alloc (.cells ((oneO (sideO side o))).cells 85))
          (refine GN.wp HNB.out (by rfl) _ _ _ (by rfl) i0 (.agg ordZ) 56 Try.underlying83 hi0 hz0 hz1 hz2 (by rfl) (by decide) (by rfl) (by rfl) (ordr_size _) (one_mem (one_ordr _)) (by unfold maxLen; omega) (by omega) ?_)
          intro g5 cap5 w5 H5
          replace H := Lib.hid H5
          clear H5 HNB HX
          go_wp2_with fail
          go_roundw
          case rel => exact ⟨k + 1, by omega, by go_num, by unfold LoopIs; rw [HTK.out, HNO.out, rowsQ_app, List.length_append]; exact H.out⟩
          case measure => simp [intOf]; omega
        · by_cases h2 : 4294967296 < o.qty
          · have HNO := Lib.hid (show normO side o = oneO (sideO side o) by unfold normO; rw [if_pos (.inr h2)])
            go_wp2_with (with_reducible (show wpList _ _ _ (⟨some 30, _, _, _, _, _⟩ :: _) _ _); refine stopAt ?_)
            unfold StopAt
            refine wpList_load_mid (by rfl) 85 _ (by rfl) gb (off + k * 7) (by rfl) o.cells.toList _ hrow Try.underlying85 rfl (by kernel_rfl) ?_
            go_wp2_with (first
              | (refine store_blk (by rfl) 85 _ _ (by rfl) wr.heap.size (by rfl) ordZ o.cells 85 HZ.out (by rfl) (by rfl) (by kernel_rfl) (one_ordr o) ?_; change wpList _ _ _ _ _ (World.setCells (wr.alloc (.cells ordZ 85)) wr.heap.size 0 o.cells.toList); rw [Go.Proofs.Ytogjgpiddjmpiaa.Blk.alloc_setCells wr ordZ o.cells 85 rfl wr.heap.size rfl]; generalize wr.alloc (.cells o.cells 85) = w3 at HX HB3 ⊢; clear HZ; have c2 : w3.cell? ⟨wr.heap.size, 2, none⟩ = some (.int .i64 o.side) := HX.out.cell 2 rfl; have c4 : w3.cell? ⟨wr.heap.size, 4, none⟩ = some (.int .i64 o.qty) := HX.out.cell 4 rfl; have f2 := HX.out.free 2; have f4 := HX.out.free 4)
              | (with_reducible (show wpList _ _ _ (⟨some 43, _, _, _, _, _⟩ :: _) _ _); refine stopAt ?_))
            unfold StopAt
            have HX2 := Lib.hid (show Blk ((w3.setCell ⟨wr.heap.size, 2, none⟩ (.int .i64 side)).setCell ⟨wr.heap.size, 4, none⟩ (.int .i64 1)) wr.heap.size (oneO (sideO side o)).cells 85 from (HX.out.set 2 _).set 4 _)
            have HB4 := Lib.hid ((HB3.out.setCell (Nat.le_refl _) (.int .i64 side) (p := ⟨wr.heap.size, 2, none⟩)).setCell (Nat.le_refl _) (.int .i64 1) (p := ⟨wr.heap.size, 4, none⟩))
            generalize (w3.setCell ⟨wr.heap.size, 2, none⟩ (.int .i64 side)).setCell ⟨wr.heap.size, 4, none⟩ (.int .i64 1) = w4 at HX2 HB4 ⊢
            clear HX HB3 c2 c4 f2 f4
            have HX := Lib.hid HX2.out
            have HNB := Lib.hid ((H.out.below HB4.out).new (oneO (sideO side o)).cells)
            clear HX2 HB4 H
            refine load_blk (by rfl) 85 _ (by rfl) wr.heap.size (by rfl) (#[.int .i64 o.id, .int .i64 o.owner, .int .i64 side, .int .i64 o.price, .int .i64 1, .int .i64 o.flags, .int .i64 o.seq]) 85 HX.out _ Try.underlying85 rfl (by kernel_rfl) ?_
            go_wp2_with (with_reducible (show wpList _ _ _ (⟨some 45, _, _, _, _, _⟩ :: _) _ _); refine stopAt ?_)
            unfold StopAt
            change wpList _ _ _ _ _ (w4.alloc (.cells ((oneO (sideO side o))).cells 85))
            (refine GN.wp HNB.out (by rfl) _ _ _ (by rfl) i0 (.agg ordZ) 56 Try.underlying83 hi0 hz0 hz1 hz2 (by rfl) (by decide) (by rfl) (by rfl) (ordr_size _) (one_mem (one_ordr _)) (by unfold maxLen; omega) (by omega) ?_)
            intro g5 cap5 w5 H5
            replace H := Lib.hid H5
            clear H5 HNB HX
            go_wp2_with fail
            go_roundw
            case rel => exact ⟨k + 1, by omega, by go_num, by unfold LoopIs; rw [HTK.out, HNO.out, rowsQ_app, List.length_append]; exact H.out⟩
            case measure => simp [intOf]; omega
          · have HNO := Lib.hid (show normO side o = sideO side o by unfold normO; rw [if_neg (by omega)])
            go_wp2_with (with_reducible (show wpList _ _ _ (⟨some 30, _, _, _, _, _⟩ :: _) _ _); refine stopAt ?_)
            unfold StopAt
            refine wpList_load_mid (by rfl) 85 _ (by rfl) gb (off + k * 7) (by rfl) o.cells.toList _ hrow Try.underlying85 rfl (by kernel_rfl) ?_
            go_wp2_with (first
              | (refine store_blk (by rfl) 85 _ _ (by rfl) wr.heap.size (by rfl) ordZ o.cells 85 HZ.out (by rfl) (by rfl) (by kernel_rfl) (one_ordr o) ?_; change wpList _ _ _ _ _ (World.setCells (wr.alloc (.cells ordZ 85)) wr.heap.size 0 o.cells.toList); rw [Go.Proofs.Ytogjgpiddjmpiaa.Blk.alloc_setCells wr ordZ o.cells 85 rfl wr.heap.size rfl]; generalize wr.alloc (.cells o.cells 85) = w3 at HX HB3 ⊢; clear HZ; have c2 : w3.cell? ⟨wr.heap.size, 2, none⟩ = some (.int .i64 o.side) := HX.out.cell 2 rfl; have c4 : w3.cell? ⟨wr.heap.size, 4, none⟩ = some (.int .i64 o.qty) := HX.out.cell 4 rfl; have f2 := HX.out.free 2; have f4 := HX.out.free 4)
              | (with_reducible (show wpList _ _ _ (⟨some 43, _, _, _, _, _⟩ :: _) _ _); refine stopAt ?_))
            unfold StopAt
            have HX2 := Lib.hid (show Blk (w3.setCell ⟨wr.heap.size, 2, none⟩ (.int .i64 side)) wr.heap.size (sideO side o).cells 85 from HX.out.set 2 _)
            have HB4 := Lib.hid (HB3.out.setCell (Nat.le_refl _) (.int .i64 side) (p := ⟨wr.heap.size, 2, none⟩))
            generalize w3.setCell ⟨wr.heap.size, 2, none⟩ (.int .i64 side) = w4 at HX2 HB4 ⊢
            clear HX HB3 c2 c4 f2 f4
            have HX := Lib.hid HX2.out
            have HNB := Lib.hid ((H.out.below HB4.out).new (sideO side o).cells)
            clear HX2 HB4 H
            refine load_blk (by rfl) 85 _ (by rfl) wr.heap.size (by rfl) (#[.int .i64 o.id, .int .i64 o.owner, .int .i64 side, .int .i64 o.price, .int .i64 o.qty, .int .i64 o.flags, .int .i64 o.seq]) 85 HX.out _ Try.underlying85 rfl (by kernel_rfl) ?_
            go_wp2_with (with_reducible (show wpList _ _ _ (⟨some 45, _, _, _, _, _⟩ :: _) _ _); refine stopAt ?_)
            unfold StopAt
            change wpList _ _ _ _ _ (w4.alloc (.cells ((sideO side o)).cells 85))
            (refine GN.wp HNB.out (by rfl) _ _ _ (by rfl) i0 (.agg ordZ) 56 Try.underlying83 hi0 hz0 hz1 hz2 (by rfl) (by decide) (by rfl) (by rfl) (ordr_size _) (one_mem (one_ordr _)) (by unfold maxLen; omega) (by omega) ?_)
            intro g5 cap5 w5 H5
            replace H := Lib.hid H5
            clear H5 HNB HX
            go_wp2_with fail
            go_roundw
            case rel => exact ⟨k + 1, by omega, by go_num, by unfold LoopIs; rw [HTK.out, HNO.out, rowsQ_app, List.length_append]; exact H.out⟩
            case measure => simp [intOf]; omega
      · obtain rfl : k = l.length := by omega
        rw [List.take_length] at H
        have HFL := Lib.hid (show (l.map (normO side)).length ≤ 60 by simp; omega)
        have HFS := Lib.hid (show ∀ i, (hi : i < (l.map (normO side)).length) → (l.map (normO side))[i].side = side from fun i hi => by rw [List.getElem_map]; exact norm_side _ _)
        have HFQ := Lib.hid (show ∀ o ∈ l.map (normO side), 0 ≤ o.qty ∧ o.qty ≤ 1125899906842624 from fun o ho => by
          obtain ⟨y, hy, rfl⟩ := List.mem_map.1 ho
          exact norm_qty _ _)
        generalize l.map (normO side) = F at H HFL HFS HFQ
        obtain ⟨a2, c2, rfl, hat⟩ := gl_ordAt H.out
        have HAT := Lib.hid hat
        have HB := Lib.hid H.out.bel
        clear hat H
        by_cases h0 : F.length = 0
        · obtain rfl := List.eq_nil_of_length_eq_zero h0
          clear h0
          go_wp2_with fail
          refine (new_any _).mono ?_
          rintro e w1 ⟨rfl, -, hb1⟩
          replace HB := Lib.hid (HB.out.trans (hb1.mono HB.out.size))
          clear hb1
          go_wp2_with fail
          refine (dof_none _ _ _ _).mono ?_
          rintro e w1 ⟨rfl, rfl⟩
          go_wp2_with fail
          refine (back_any 0 _ [] _ (lvrow_nil _ _) (by simp)).mono ?_
          rintro e w3 ⟨v3, rfl, h4, h5⟩
          replace HB := Lib.hid (HB.out.trans (h5.mono HB.out.size))
          have HV := Lib.hid h4
          clear h4 h5
          go_wp2_with fail
          refine (rof_none _ _ _).mono ?_
          rintro e w4 ⟨rfl, rfl⟩
          go_wp2_with fail
          refine (rsame_any _ 0 v3 _ [] _ HV.out (lvrow_nil _ _)).mono ?_
          rintro e w5 ⟨rfl, h5⟩
          replace HB := Lib.hid (HB.out.trans (h5.mono HB.out.size))
          clear h5 HV
          go_wp2_with fail
          refine (dof_nil _ _).mono ?_
          rintro e w6 ⟨rfl, rfl⟩
          go_wp2_with fail
          refine (alive_any _).mono ?_
          rintro e w9 ⟨rfl, hb9⟩
          have HB9 := Lib.hid (HB.out.trans (hb9.mono HB.out.size))
          clear hb9
          go_wp2_with fail
          go_ret
          exact ⟨rfl, HB9.out⟩
        · have HSD := Lib.hid hs
          go_wp2_with fail
          refine (new_any _).mono ?_
          rintro e w1 ⟨rfl, -, hb1⟩
          replace HB := Lib.hid (HB.out.trans (hb1.mono HB.out.size))
          replace HAT := Lib.hid (HAT.out.below hb1)
          clear hb1
          go_wp2_with fail
          refine (dof_any _ side HSD.out F a2 c2 _ (by have := HFL.out; omega) (by omega) (HFS.out 0 (by omega)) HFQ.out HAT.out).mono ?_
          rintro e w2 ⟨S, v, h1, rfl, h2, h3⟩
          obtain rfl : S = ofL side (F.map Ordr.pq) := lvS_unique (List.Perm.refl _) h1 (lvS_ofL HSD.out _)
          replace HB := Lib.hid (HB.out.trans (h3.mono HB.out.size))
          replace HAT := Lib.hid (HAT.out.below h3)
          have HV := Lib.hid h2
          clear h1 h2 h3
          have hSl : (ofL side (F.map Ordr.pq)).length ≤ 1000 := by have := ofL_len side (F.map Ordr.pq); have := HFL.out; simp at *; omega
          go_wp2_with fail
          refine (back_any _ _ _ _ HV.out hSl).mono ?_
          rintro e w3 ⟨v3, rfl, h4, h5⟩
          replace HB := Lib.hid (HB.out.trans (h5.mono HB.out.size))
          replace HAT := Lib.hid (HAT.out.below h5)
          replace HV := Lib.hid h4
          clear h4 h5
          go_wp2_with fail
          refine (rof_any side HSD.out F a2 c2 _ (by have := HFL.out; omega) (by omega) (HFS.out 0 (by omega)) HFQ.out HAT.out).mono ?_
          rintro e w4 ⟨v4, rfl, hos⟩
          replace HB := Lib.hid (HB.out.trans (hos.bel.mono HB.out.size))
          replace HV := Lib.hid (HV.out.below hos.bel)
          have HV4 := Lib.hid hos.lvrow
          clear hos
          go_wp2_with fail
          refine (rsame_any _ _ v3 v4 _ _ HV.out HV4.out).mono ?_
          rintro e w5 ⟨rfl, h5⟩
          replace HB := Lib.hid (HB.out.trans (h5.mono HB.out.size))
          clear h5 HV HV4 HAT
          go_wp2_with fail
          refine (dof_nil _ _).mono ?_
          rintro e w6 ⟨rfl, rfl⟩
          go_wp2_with fail
          refine (alive_any _).mono ?_
          rintro e w9 ⟨rfl, hb9⟩
          have HB9 := Lib.hid (HB.out.trans (hb9.mono HB.out.size))
          clear hb9
          go_wp2_with fail
          go_ret
          exact ⟨rfl, HB9.out⟩
  · have b0 : (side != 0) = true := by simpa using h0
    have b1 : (side != 1) = false := by simpa using hs.resolve_left h0
    clear h0
    go_enter Try.func9, Try.ntmps9
    go_wp2_with fail
    go_loopw [5, 6] (fun v i wr => ∃ k : Nat, k ≤ l.length ∧ i = .int .i64 k ∧ LoopIs l side w v k wr) (fun _ i _ => l.length - (intOf i).toNat)
    case atStart => exact ⟨0, by omega, rfl, GL.start _ _ _ (Below.refl _ _) (Nat.le_refl _)⟩
    case round =>
      obtain ⟨k, hk, rfl, hgl⟩ := hrel
      have H := Lib.hid hgl
      clear hgl
      unfold LoopIs at H
      by_cases hlt : k < l.length
      · obtain ⟨gb, off, rfl, hrow0⟩ := ordRow_all HR.out hlt
        have hrow := hrow0 wr H.out.bel
        have HTK := Lib.hid (show (l.take (k + 1)).map (normO side) = (l.take k).map (normO side) ++ [normO side l[k]] by rw [List.take_succ_eq_append_getElem hlt, List.map_append]; rfl)
        have hlen : ((l.take k).map (normO side)).length ≤ 60 := by simp; omega
        clear hrow0
        generalize (l.take k).map (normO side) = F at H HTK hlen
        generalize l[k] = o at hrow HTK
        obtain ⟨i0, hi0, hz0, hz1, hz2⟩ := info_parts infoO
        have HZ := Lib.hid (Blk.new wr ordZ 85 wr.heap.size rfl)
        have g0 : (0 : Int) ≤ (k : Int) := by omega
        have g1 : (k : Int) < (l.length : Int) := by omega
        have HX := Lib.hid (Blk.new wr o.cells 85 wr.heap.size rfl)
        have HB3 := Lib.hid ((Below.refl wr.heap.size wr).alloc (Nat.le_refl _) (.cells o.cells 85))
        by_cases h1 : o.qty < 0
        · have HNO := Lib.hid (show normO side o = oneO (sideO side o) by unfold normO; rw [if_pos (.inl h1)])
          go_wp2_with (with_reducible (show wpList _ _ _ (⟨some 30, _, _, _, _, _⟩ :: _) _ _); refine stopAt ?_)
          unfold StopAt
          refine wpList_load_mid (by rfl) 85 _ (by rfl) gb (off + k * 7) (by rfl) o.cells.toList _ hrow Try.underlying85 rfl (by kernel_rfl) ?_
          go_wp2_with (first
            | (refine store_blk (by rfl) 85 _ _ (by rfl) wr.heap.size (by rfl) ordZ o.cells 85 HZ.out (by rfl) (by rfl) (by kernel_rfl) (one_ordr o) ?_; change wpList _ _ _ _ _ (World.setCells (wr.alloc (.cells ordZ 85)) wr.heap.size 0 o.cells.toList); rw [Go.Proofs.Ytogjgpiddjmpiaa.Blk.alloc_setCells wr ordZ o.cells 85 rfl wr.heap.size rfl]; generalize wr.alloc (.cells o.cells 85) = w3 at HX HB3 ⊢; clear HZ; have c2 : w3.cell? ⟨wr.heap.size, 2, none⟩ = some (.int .i64 o.side) := HX.out.cell 2 rfl; have c4 : w3.cell? ⟨wr.heap.size, 4, none⟩ = some (.int .i64 o.qty) := HX.out.cell 4 rfl; have f2 := HX.out.free 2; have f4 := HX.out.free 4)
            | (with_reducible (show wpList _ _ _ (⟨some 43, _, _, _, _, _⟩ :: _) _ _); refine stopAt ?_))
          unfold StopAt
          have HX2 := Lib.hid (show Blk ((w3.setCell ⟨wr.heap.size, 2, none⟩ (.int .i64 side)).setCell ⟨wr.heap.size, 4, none⟩ (.int .i64 1)) wr.heap.size (oneO (sideO side o)).cells 85 from (HX.out.set 2 _).set 4 _)
          have HB4 := Lib.hid ((HB3.out.setCell (Nat.le_refl _) (.int .i64 side) (p := ⟨wr.heap.size, 2, none⟩)).setCell (Nat.le_refl _) (.int .i64 1) (p := ⟨wr.heap.size, 4, none⟩))
          generalize (w3.setCell ⟨wr.heap.size, 2, none⟩ (.int .i64 side)).setCell ⟨wr.heap.size, 4, none⟩ (.int .i64 1) = w4 at HX2 HB4 ⊢
          clear HX HB3 c2 c4 f2 f4
          have HX := Lib.hid HX2.out
          have HNB := Lib.hid ((H.out.below HB4.out).new (oneO (sideO side o)).cells)
          clear HX2 HB4 H
          refine load_blk (by rfl) 85 _ (by rfl) wr.heap.size (by rfl) (#[.int .i64 o.id, .int .i64 o.owner, .int .i64 side, .int .i64 o.price, .int .i64 1, .int .i64 o.flags, .int .i64 o.seq]) 85 HX.out _ Try.underlying85 rfl (by kernel_rfl) ?_
          go_wp2_with (with_reducible (show wpList _ _ _ (⟨some 45, _, _, _, _, _⟩ :: _) _ _); refine stopAt ?_)
          unfold StopAt
          change wpList _ _ _ _ _ (w4.alloc (.cells ((oneO (sideO side o))).cells 85))
          (refine GN.wp HNB.out (by rfl) _ _ _ (by rfl) i0 (.agg ordZ) 56 Try.underlying83 hi0 hz0 hz1 hz2 (by rfl) (by decide) (by rfl) (by rfl) (ordr_size _) (one_mem (one_ordr _)) (by unfold maxLen; omega) (by omega) ?_)
          intro g5 cap5 w5 H5
          replace H := Lib.hid H5
          clear H5 HNB HX
          go_wp2_with fail
          go_roundw
          case rel => exact ⟨k + 1, by omega, by go_num, by unfold LoopIs; rw [HTK.out, HNO.out, rowsQ_app, List.length_append]; exact H.out⟩
          case measure => simp [intOf]; omega
        · by_cases h2 : 4294967296 < o.qty
          · have HNO := Lib.hid (show normO side o = oneO (sideO side o) by unfold normO; rw [if_pos (.inr h2)])
            go_wp2_with (with_reducible (show wpList _ _ _ (⟨some 30, _, _, _, _, _⟩ :: _) _ _); refine stopAt ?_)
            unfold StopAt
            refine wpList_load_mid (by rfl) 85 _ (by rfl) gb (off + k * 7) (by rfl) o.cells.toList _ hrow Try.underlying85 rfl (by kernel_rfl) ?_
            go_wp2_with (first
              | (refine store_blk (by rfl) 85 _ _ (by rfl) wr.heap.size (by rfl) ordZ o.cells 85 HZ.out (by rfl) (by rfl) (by kernel_rfl) (one_ordr o) ?_; change wpList _ _ _ _ _ (World.setCells (wr.alloc (.cells ordZ 85)) wr.heap.size 0 o.cells.toList); rw [Go.Proofs.Ytogjgpiddjmpiaa.Blk.alloc_setCells wr ordZ o.cells 85 rfl wr.heap.size rfl]; generalize wr.alloc (.cells o.cells 85) = w3 at HX HB3 ⊢; clear HZ; have c2 : w3.cell? ⟨wr.heap.size, 2, none⟩ = some (.int .i64 o.side) := HX.out.cell 2 rfl; have c4 : w3.cell? ⟨wr.heap.size, 4, none⟩ = some (.int .i64 o.qty) := HX.out.cell 4 rfl; have f2 := HX.out.free 2; have f4 := HX.out.free 4)
              | (with_reducible (show wpList _ _ _ (⟨some 43, _, _, _, _, _⟩ :: _) _ _); refine stopAt ?_))
            unfold StopAt
            have HX2 := Lib.hid (show Blk ((w3.setCell ⟨wr.heap.size, 2, none⟩ (.int .i64 side)).setCell ⟨wr.heap.size, 4, none⟩ (.int .i64 1)) wr.heap.size (oneO (sideO side o)).cells 85 from (HX.out.set 2 _).set 4 _)
            have HB4 := Lib.hid ((HB3.out.setCell (Nat.le_refl _) (.int .i64 side) (p := ⟨wr.heap.size, 2, none⟩)).setCell (Nat.le_refl _) (.int .i64 1) (p := ⟨wr.heap.size, 4, none⟩))
            generalize (w3.setCell ⟨wr.heap.size, 2, none⟩ (.int .i64 side)).setCell ⟨wr.heap.size, 4, none⟩ (.int .i64 1) = w4 at HX2 HB4 ⊢
            clear HX HB3 c2 c4 f2 f4
            have HX := Lib.hid HX2.out
            have HNB := Lib.hid ((H.out.below HB4.out).new (oneO (sideO side o)).cells)
            clear HX2 HB4 H
            refine load_blk (by rfl) 85 _ (by rfl) wr.heap.size (by rfl) (#[.int .i64 o.id, .int .i64 o.owner, .int .i64 side, .int .i64 o.price, .int .i64 1, .int .i64 o.flags, .int .i64 o.seq]) 85 HX.out _ Try.underlying85 rfl (by kernel_rfl) ?_
            go_wp2_with (with_reducible (show wpList _ _ _ (⟨some 45, _, _, _, _, _⟩ :: _) _ _); refine stopAt ?_)
            unfold StopAt
            change wpList _ _ _ _ _ (w4.alloc (.cells ((oneO (sideO side o))).cells 85))
            (refine GN.wp HNB.out (by rfl) _ _ _ (by rfl) i0 (.agg ordZ) 56 Try.underlying83 hi0 hz0 hz1 hz2 (by rfl) (by decide) (by rfl) (by rfl) (ordr_size _) (one_mem (one_ordr _)) (by unfold maxLen; omega) (by omega) ?_)
            intro g5 cap5 w5 H5
            replace H := Lib.hid H5
            clear H5 HNB HX
            go_wp2_with fail
            go_roundw
            case rel => exact ⟨k + 1, by omega, by go_num, by unfold LoopIs; rw [HTK.out, HNO.out, rowsQ_app, List.length_append]; exact H.out⟩
            case measure => simp [intOf]; omega
          · have HNO := Lib.hid (show normO side o = sideO side o by unfold normO; rw [if_neg (by omega)])
            go_wp2_with (with_reducible (show wpList _ _ _ (⟨some 30, _, _, _, _, _⟩ :: _) _ _); refine stopAt ?_)
            unfold StopAt
            refine wpList_load_mid (by rfl) 85 _ (by rfl) gb (off + k * 7) (by rfl) o.cells.toList _ hrow Try.underlying85 rfl (by kernel_rfl) ?_
            go_wp2_with (first
              | (refine store_blk (by rfl) 85 _ _ (by rfl) wr.heap.size (by rfl) ordZ o.cells 85 HZ.out (by rfl) (by rfl) (by kernel_rfl) (one_ordr o) ?_; change wpList _ _ _ _ _ (World.setCells (wr.alloc (.cells ordZ 85)) wr.heap.size 0 o.cells.toList); rw [Go.Proofs.Ytogjgpiddjmpiaa.Blk.alloc_setCells wr ordZ o.cells 85 rfl wr.heap.size rfl]; generalize wr.alloc (.cells o.cells 85) = w3 at HX HB3 ⊢; clear HZ; have c2 : w3.cell? ⟨wr.heap.size, 2, none⟩ = some (.int .i64 o.side) := HX.out.cell 2 rfl; have c4 : w3.cell? ⟨wr.heap.size, 4, none⟩ = some (.int .i64 o.qty) := HX.out.cell 4 rfl; have f2 := HX.out.free 2; have f4 := HX.out.free 4)
              | (with_reducible (show wpList _ _ _ (⟨some 43, _, _, _, _, _⟩ :: _) _ _); refine stopAt ?_))
            unfold StopAt
            have HX2 := Lib.hid (show Blk (w3.setCell ⟨wr.heap.size, 2, none⟩ (.int .i64 side)) wr.heap.size (sideO side o).cells 85 from HX.out.set 2 _)
            have HB4 := Lib.hid (HB3.out.setCell (Nat.le_refl _) (.int .i64 side) (p := ⟨wr.heap.size, 2, none⟩))
            generalize w3.setCell ⟨wr.heap.size, 2, none⟩ (.int .i64 side) = w4 at HX2 HB4 ⊢
            clear HX HB3 c2 c4 f2 f4
            have HX := Lib.hid HX2.out
            have HNB := Lib.hid ((H.out.below HB4.out).new (sideO side o).cells)
            clear HX2 HB4 H
            refine load_blk (by rfl) 85 _ (by rfl) wr.heap.size (by rfl) (#[.int .i64 o.id, .int .i64 o.owner, .int .i64 side, .int .i64 o.price, .int .i64 o.qty, .int .i64 o.flags, .int .i64 o.seq]) 85 HX.out _ Try.underlying85 rfl (by kernel_rfl) ?_
            go_wp2_with (with_reducible (show wpList _ _ _ (⟨some 45, _, _, _, _, _⟩ :: _) _ _); refine stopAt ?_)
            unfold StopAt
            change wpList _ _ _ _ _ (w4.alloc (.cells ((sideO side o)).cells 85))
            (refine GN.wp HNB.out (by rfl) _ _ _ (by rfl) i0 (.agg ordZ) 56 Try.underlying83 hi0 hz0 hz1 hz2 (by rfl) (by decide) (by rfl) (by rfl) (ordr_size _) (one_mem (one_ordr _)) (by unfold maxLen; omega) (by omega) ?_)
            intro g5 cap5 w5 H5
            replace H := Lib.hid H5
            clear H5 HNB HX
            go_wp2_with fail
            go_roundw
            case rel => exact ⟨k + 1, by omega, by go_num, by unfold LoopIs; rw [HTK.out, HNO.out, rowsQ_app, List.length_append]; exact H.out⟩
            case measure => simp [intOf]; omega
      · obtain rfl : k = l.length := by omega
        rw [List.take_length] at H
        have HFL := Lib.hid (show (l.map (normO side)).length ≤ 60 by simp; omega)
        have HFS := Lib.hid (show ∀ i, (hi : i < (l.map (normO side)).length) → (l.map (normO side))[i].side = side from fun i hi => by rw [List.getElem_map]; exact norm_side _ _)
        have HFQ := Lib.hid (show ∀ o ∈ l.map (normO side), 0 ≤ o.qty ∧ o.qty ≤ 1125899906842624 from fun o ho => by
          obtain ⟨y, hy, rfl⟩ := List.mem_map.1 ho
          exact norm_qty _ _)
        generalize l.map (normO side) = F at H HFL HFS HFQ
        obtain ⟨a2, c2, rfl, hat⟩ := gl_ordAt H.out
        have HAT := Lib.hid hat
        have HB := Lib.hid H.out.bel
        clear hat H
        by_cases h0 : F.length = 0
        · obtain rfl := List.eq_nil_of_length_eq_zero h0
          clear h0
          go_wp2_with fail
          refine (new_any _).mono ?_
          rintro e w1 ⟨rfl, -, hb1⟩
          replace HB := Lib.hid (HB.out.trans (hb1.mono HB.out.size))
          clear hb1
          go_wp2_with fail
          refine (dof_none _ _ _ _).mono ?_
          rintro e w1 ⟨rfl, rfl⟩
          go_wp2_with fail
          refine (back_any 0 _ [] _ (lvrow_nil _ _) (by simp)).mono ?_
          rintro e w3 ⟨v3, rfl, h4, h5⟩
          replace HB := Lib.hid (HB.out.trans (h5.mono HB.out.size))
          have HV := Lib.hid h4
          clear h4 h5
          go_wp2_with fail
          refine (rof_none _ _ _).mono ?_
          rintro e w4 ⟨rfl, rfl⟩
          go_wp2_with fail
          refine (rsame_any _ 0 v3 _ [] _ HV.out (lvrow_nil _ _)).mono ?_
          rintro e w5 ⟨rfl, h5⟩
          replace HB := Lib.hid (HB.out.trans (h5.mono HB.out.size))
          clear h5 HV
          go_wp2_with fail
          refine (dof_nil _ _).mono ?_
          rintro e w6 ⟨rfl, rfl⟩
          go_wp2_with fail
          refine (alive_any _).mono ?_
          rintro e w9 ⟨rfl, hb9⟩
          have HB9 := Lib.hid (HB.out.trans (hb9.mono HB.out.size))
          clear hb9
          go_wp2_with fail
          go_ret
          exact ⟨rfl, HB9.out⟩
        · have HSD := Lib.hid hs
          go_wp2_with fail
          refine (new_any _).mono ?_
          rintro e w1 ⟨rfl, -, hb1⟩
          replace HB := Lib.hid (HB.out.trans (hb1.mono HB.out.size))
          replace HAT := Lib.hid (HAT.out.below hb1)
          clear hb1
          go_wp2_with fail
          refine (dof_any _ side HSD.out F a2 c2 _ (by have := HFL.out; omega) (by omega) (HFS.out 0 (by omega)) HFQ.out HAT.out).mono ?_
          rintro e w2 ⟨S, v, h1, rfl, h2, h3⟩
          obtain rfl : S = ofL side (F.map Ordr.pq) := lvS_unique (List.Perm.refl _) h1 (lvS_ofL HSD.out _)
          replace HB := Lib.hid (HB.out.trans (h3.mono HB.out.size))
          replace HAT := Lib.hid (HAT.out.below h3)
          have HV := Lib.hid h2
          clear h1 h2 h3
          have hSl : (ofL side (F.map Ordr.pq)).length ≤ 1000 := by have := ofL_len side (F.map Ordr.pq); have := HFL.out; simp at *; omega
          go_wp2_with fail
          refine (back_any _ _ _ _ HV.out hSl).mono ?_
          rintro e w3 ⟨v3, rfl, h4, h5⟩
          replace HB := Lib.hid (HB.out.trans (h5.mono HB.out.size))
          replace HAT := Lib.hid (HAT.out.below h5)
          replace HV := Lib.hid h4
          clear h4 h5
          go_wp2_with fail
          refine (rof_any side HSD.out F a2 c2 _ (by have := HFL.out; omega) (by omega) (HFS.out 0 (by omega)) HFQ.out HAT.out).mono ?_
          rintro e w4 ⟨v4, rfl, hos⟩
          replace HB := Lib.hid (HB.out.trans (hos.bel.mono HB.out.size))
          replace HV := Lib.hid (HV.out.below hos.bel)
          have HV4 := Lib.hid hos.lvrow
          clear hos
          go_wp2_with fail
          refine (rsame_any _ _ v3 v4 _ _ HV.out HV4.out).mono ?_
          rintro e w5 ⟨rfl, h5⟩
          replace HB := Lib.hid (HB.out.trans (h5.mono HB.out.size))
          clear h5 HV HV4 HAT
          go_wp2_with fail
          refine (dof_nil _ _).mono ?_
          rintro e w6 ⟨rfl, rfl⟩
          go_wp2_with fail
          refine (alive_any _).mono ?_
          rintro e w9 ⟨rfl, hb9⟩
          have HB9 := Lib.hid (HB.out.trans (hb9.mono HB.out.size))
          clear hb9
          go_wp2_with fail
          go_ret
          exact ⟨rfl, HB9.out⟩
theorem orders_no (a : Option Addr) (cap : Nat) (l : List Ordr) (side : Int) (w : World) (hl : l.length ≤ maxLen) (hbad : 60 < l.length ∨ (side ≠ 0 ∧ side ≠ 1)) :
    Calls Try.prog 9 #[.slice a l.length cap, .int .i64 side] w fun e w' => e = .returned (.bool true) ∧ Below w.heap.size w w' := by
  unfold maxLen at hl
  have HB := Lib.hid (Below.refl w.heap.size w)
  by_cases h60 : 60 < l.length
  · have h60' : 60 < (l.length : Int) := by omega
    clear hbad h60
    go_enter Try.func9, Try.ntmps9
    go_wp2_with fail
    refine (alive_any _).mono ?_
    rintro e w9 ⟨rfl, hb9⟩
    have HB9 := Lib.hid (HB.out.trans (hb9.mono HB.out.size))
    clear hb9
    go_wp2_with fail
    go_ret
    exact ⟨rfl, HB9.out⟩
  · have h60' : ¬ 60 < (l.length : Int) := by omega
    obtain ⟨h0, h1⟩ := hbad.resolve_left h60
    have b0 : (side != 0) = true := by simpa using h0
    have b1 : (side != 1) = true := by simpa using h1
    clear hbad h60 h0 h1
    go_enter Try.func9, Try.ntmps9
    go_wp2_with fail
    refine (alive_any _).mono ?_
    rintro e w9 ⟨rfl, hb9⟩
    have HB9 := Lib.hid (HB.out.trans (hb9.mono HB.out.size))
    clear hb9
    go_wp2_with fail
    go_ret
    exact ⟨rfl, HB9.out⟩
theorem orders_law (a : Option Addr) (cap : Nat) (l : List Ordr) (side : Int) (w : World) (hr : OrdRow w a l) (hl : l.length ≤ maxLen) :
    Calls Try.prog 9 #[.slice a l.length cap, .int .i64 side] w fun e w' => e = .returned (.bool true) ∧ Below w.heap.size w w' := by
  by_cases hbad : 60 < l.length ∨ (side ≠ 0 ∧ side ≠ 1)
  · exact orders_no a cap l side w hl hbad
  · exact orders_yes a cap l side w hr (by omega) (by omega)
end Go.Proofs.Ytogjgpiddjmpiaa.Depth
