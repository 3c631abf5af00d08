/- Parts of the proof: R33V, R33W, DepthPlaysW, DepthBestW. -/
import Derived.Test.YtogjgpiddjmpiaaPart24
import Derived.Test.YtogjgpiddjmpiaaPart27

/- The document's Levels. -/
namespace Go.Proofs.Ytogjgpiddjmpiaa.Depth
open Go.RowKit Go.Proofs.Ytogjgpiddjmpiaa.Kit Go.Proofs.Ytogjgpiddjmpiaa.Blk Go.Proofs.Ytogjgpiddjmpiaa.Mp Go.Proofs.Ytogjgpiddjmpiaa.Msgs Go.Proofs.Ytogjgpiddjmpiaa.Octets Go.Proofs.Ytogjgpiddjmpiaa.Tape
attribute [local go_sem ↓] Go.wp_at_zero Go.wp_at_succ
set_option linter.unusedVariables false

def ordOf (p : Key × Rest) : Ordr := ⟨p.1.2, 0, p.2.side, p.2.price, p.2.qty, 0, 0⟩
theorem one_ordr (o : Ordr) : o.cells.all (·.oneCell') = true := by simp [Ordr.cells, Value.oneCell']
abbrev rowsO (l : List Ordr) : List Value := l.flatMap fun o => o.cells.toList
/-- The orders at a symbol's side. -/
def fil (L : List (Key × Rest)) (sym side : Int) : List Ordr := (L.filter fun p => decide (p.1.1 = sym) && decide (p.2.side = side)).map ordOf
theorem fil_yes {L : List (Key × Rest)} {p : Key × Rest} {sym side : Int} (h1 : p.1.1 = sym) (h2 : p.2.side = side) : fil (L ++ [p]) sym side = fil L sym side ++ [ordOf p] := by
  simp [fil, List.filter_append, h1, h2]
theorem fil_no {L : List (Key × Rest)} {p : Key × Rest} {sym side : Int} (h : ¬ (p.1.1 = sym ∧ p.2.side = side)) : fil (L ++ [p]) sym side = fil L sym side := by
  have : (decide (p.1.1 = sym) && decide (p.2.side = side)) = false := by simpa using h
  simp [fil, List.filter_append, this]
theorem fil_pq (L : List (Key × Rest)) (sym side : Int) : (fil L sym side).map Ordr.pq = restV L sym side := by
  unfold fil restV; rw [List.map_map]; rfl
theorem fil_len (L : List (Key × Rest)) (sym side : Int) : (fil L sym side).length ≤ L.length := by
  unfold fil; rw [List.length_map]; exact List.length_filter_le _ _
theorem fil_mem {L : List (Key × Rest)} {sym side : Int} {o : Ordr} (h : o ∈ fil L sym side) : o.side = side ∧ ∃ p ∈ L, o = ordOf p := by
  obtain ⟨p, hp, rfl⟩ := List.mem_map.1 h
  have := (List.mem_filter.1 hp).2
  simp only [Bool.and_eq_true, decide_eq_true_eq] at this
  exact ⟨this.2, p, (List.mem_filter.1 hp).1, rfl⟩
theorem infoOrd : (Try.prog.info? 85).map (fun i => (i.zero, i.size, i.bytes)) = some (some (.agg #[.int .i64 0, .int .i64 0, .int .i64 0, .int .i64 0, .int .i64 0, .int .i64 0, .int .i64 0]), 7, 56) := by kernel_rfl
theorem rof_nil (w : World) : Calls Try.prog 44 #[.slice none 0 0] w fun e w' => e = .returned (.slice none 0 0) ∧ w = w' := by
  go_enter Try.func44, Try.ntmps44
  go_wp2_with fail
  go_ret
  exact ⟨rfl, rfl⟩
/-- What the document's Levels answers. -/
def RLevIs (L : List (Key × Rest)) (sym side most : Int) (w : World) (e : Ending) (w' : World) : Prop :=
  ∃ v, e = .returned v ∧ LvRow w' w.heap.size v (cutF most (ofL side (restV L sym side))) ∧ Below w.heap.size w w'
theorem OS.lvrow {n0 : Nat} {side : Int} {w W : World} {v : Value} {S : List Lvl} (h : OS n0 side w W v S) : LvRow W n0 v S := by
  obtain ⟨a, c, h1, h2, h3, h4⟩ := h.at
  exact ⟨a, c, h1, h2, h3, fun i hi => by
    obtain ⟨g, g1, g2, g3, g4⟩ := h4 i hi
    exact ⟨g, g1, g2, g3, fun j u hu => g4 j u (by simpa using hu)⟩⟩
theorem lvrow_nil (W : World) (n0 : Nat) : LvRow W n0 (.slice none 0 0) [] := ⟨none, 0, rfl, Nat.le_refl _, Nat.zero_le _, fun i hi => by simp at hi⟩
theorem LvRow.mono {W : World} {N N' : Nat} {v : Value} {S : List Lvl} (h : LvRow W N v S) (hn : N' ≤ N) : LvRow W N' v S := by
  obtain ⟨a, c, h1, h2, h3, h4⟩ := h
  exact ⟨a, c, h1, h2, h3, fun i hi => by obtain ⟨g, f1, f2, f3⟩ := h4 i hi; exact ⟨g, f1, Nat.le_trans hn f2, f3⟩⟩
theorem LvRow.cut {W : World} {N : Nat} {a : Option Addr} {c : Nat} {S : List Lvl} (h : LvRow W N (.slice a S.length c) S) {m : Nat} (hm : m < S.length) : LvRow W N (.slice a m c) (S.take m) := by
  obtain ⟨a', c', h1, h2, h3, h4⟩ := h
  injection h1 with h1 _ h5
  subst h1 h5
  have hl : (S.take m).length = m := by rw [List.length_take]; omega
  refine ⟨a, c, by rw [hl], by omega, by omega, fun i hi => ?_⟩
  obtain ⟨g, f1, f2, f3, f4⟩ := h4 i (by omega)
  refine ⟨g, f1, f2, f3, fun j u hu => f4 j u ?_⟩
  rwa [List.getElem_take] at hu
set_option maxRecDepth 20000 in
set_option maxHeartbeats 4000000 in
theorem rlevels_any (N R : Nat) (L : List (Key × Rest)) (sym side most : Int) (w : World) (h : RS N w R L) (hok : OkL L) (hl : L.length ≤ 1000) (hs : side = 0 ∨ side = 1) :
    Calls Try.prog 42 #[.pointer (some ⟨R, 0, none⟩), .int .i64 sym, .int .i64 side, .int .i64 most] w (RLevIs L sym side most w) := by
  obtain ⟨v, hR, -, hrow, -⟩ := h
  obtain ⟨a, cap, rfl, hc1, hc2, hat⟩ := owned_at rowC 8 rowC_size hrow
  have cR : w.cell? ⟨R, 0, none⟩ = some (.slice a L.length cap) := hR.cell 0 rfl
  have hRl := hR.lt
  have HAT := Lib.hid hat
  have HOK := Lib.hid hok
  have HSD := Lib.hid hs
  obtain ⟨i0, hi0, hz0, hz1, hz2⟩ := info_parts infoOrd
  unfold maxLen at hc2
  clear hrow hR hat hok hs
  go_enter Try.func42, Try.ntmps42
  go_wp2_with fail
  go_loopw [9, 10] (fun v i wr => ∃ k : Nat, k ≤ L.length ∧ i = .int .i64 k ∧ GL w.heap.size 85 7 w wr v (fil (L.take k) sym side).length (rowsO (fil (L.take k) sym side))) (fun _ i _ => L.length - (intOf i).toNat)
  case atStart => exact ⟨0, by omega, rfl, GL.start _ _ _ (Below.refl _ _) (Nat.le_refl _)⟩
  case round =>
    obtain ⟨k, hk, rfl, hgl⟩ := hrel
    have H := Lib.hid hgl
    clear hgl
    have cR2 : wr.cell? ⟨R, 0, none⟩ = some (.slice a L.length cap) := by rw [H.out.bel.cell (p := ⟨R, _, none⟩) hRl]; exact cR
    by_cases hlt : k < L.length
    · obtain ⟨g, rfl, hgn, hgw, hcell⟩ := HAT.out k hlt
      have HYES := Lib.hid (fil_yes (L := L.take k) (p := L[k]) (sym := sym) (side := side))
      have HNO := Lib.hid (fil_no (L := L.take k) (p := L[k]) (sym := sym) (side := side))
      rw [← List.take_succ_eq_append_getElem hlt] at HYES HNO
      have hlen := fil_len (L.take k) sym side
      rw [List.length_take] at hlen
      have hc : wr.rangeAt g (k * 8) (rowC L[k]).toList := fun j u hu => by
        rw [H.out.bel.cell (p := ⟨g, _, none⟩) hgw]; exact hcell j u hu
      have c0 : wr.cell? ⟨g, k * 8, none⟩ = some (.int .i64 L[k].1.1) := hc 0 _ rfl
      have c3 : wr.cell? ⟨g, k * 8 + 1 + 2, none⟩ = some (.int .i64 L[k].2.side) := hc 3 _ rfl
      have hrow : wr.rangeAt g (k * 8 + 1) (ordOf L[k]).cells.toList := fun j u hu => by
        have := hc (j + 1) u (by simpa [rowC, Ordr.cells, ordOf] using hu)
        rwa [show k * 8 + (j + 1) = k * 8 + 1 + j by omega] at this
      have g0 : (0 : Int) ≤ (k : Int) := by omega
      have g1 : (k : Int) < (L.length : Int) := by omega
      clear hcell hc cR
      generalize L[k] = x at *
      generalize hF1 : fil (L.take (k + 1)) sym side = F1 at *
      replace hF1 := Lib.hid hF1
      generalize fil (L.take k) sym side = F at *
      obtain ⟨⟨x1, x2⟩, xs, xp, xq⟩ := x
      dsimp only at c0 c3
      have HRW := Lib.hid hrow
      clear hrow
      by_cases h1 : x1 = sym
      · by_cases h2 : xs = side
        · have HE := Lib.hid (HYES.out h1 h2)
          have b1 : (x1 == sym) = true := by simpa using h1
          have b2 : (xs == side) = true := by simpa using h2
          clear h1 h2 HYES HNO
          have HN := Lib.hid (H.out.new (ordOf ((x1, x2), ⟨xs, xp, xq⟩)).cells)
          go_wp2_with (with_reducible (show wpList _ _ _ (⟨some 52, _, _, _, _, _⟩ :: _) _ _); refine stopAt ?_)
          unfold StopAt
          refine wpList_load_mid rfl 85 (.tmp 51) rfl g (k * 8 + 1) rfl (ordOf ((x1, x2), ⟨xs, xp, xq⟩)).cells.toList _ HRW.out Try.underlying85 rfl (by kernel_rfl) ?_
          simp only [Ordr.cells, ordOf]
          go_wp2_with (with_reducible (show wpList _ _ _ (⟨some 54, _, _, _, _, _⟩ :: _) _ _); refine stopAt ?_)
          unfold StopAt
          refine GN.wp HN.out rfl (.tmp 44) (.tmp 53) 83 rfl i0 (.agg #[.int .i64 0, .int .i64 0, .int .i64 0, .int .i64 0, .int .i64 0, .int .i64 0, .int .i64 0]) 56 Try.underlying83 hi0 hz0 hz1 hz2 rfl (by decide) rfl rfl (ordr_size _) (one_mem (one_ordr _)) (by unfold maxLen; omega) (by omega) ?_
          intro g5 cap5 w5 H5
          replace H5 := Lib.hid H5
          go_wp2_with fail
          go_roundw
          case rel => exact ⟨k + 1, by omega, by go_num, by rw [hF1.out, HE.out]; simpa [rowsO] using H5.out⟩
          case measure => simp [intOf]; omega
        · have b1 : (x1 == sym) = true := by simpa using h1
          have b2 : (xs == side) = false := by simpa using h2
          have hne : ¬ (x1 = sym ∧ xs = side) := fun h => h2 h.2
          clear h1 h2 HYES
          go_wp2_with fail
          go_roundw
          case rel => exact ⟨k + 1, by omega, by go_num, by rw [hF1.out, HNO.out hne]; exact H.out⟩
          case measure => simp [intOf]; omega
      · have b1 : (x1 == sym) = false := by simpa using h1
        have hne : ¬ (x1 = sym ∧ xs = side) := fun h => h1 h.1
        clear h1 HYES
        go_wp2_with fail
        go_roundw
        case rel => exact ⟨k + 1, by omega, by go_num, by rw [hF1.out, HNO.out hne]; exact H.out⟩
        case measure => simp [intOf]; omega
    · obtain rfl : k = L.length := by omega
      rw [List.take_length] at H
      have hfl := fil_len L sym side
      have HM := Lib.hid (fun o (ho : o ∈ fil L sym side) => fil_mem ho)
      have HPQ := Lib.hid (fil_pq L sym side)
      by_cases h0 : 0 < (fil L sym side).length
      · obtain ⟨va, vc, rfl, hv1, hv2, hva⟩ := owned_at Ordr.cells 7 ordr_size H.out.own
        have HOF := Lib.hid (rof_any side HSD.out (fil L sym side) va vc wr (by omega) h0 (HM.out _ (List.getElem_mem h0)).1 (fun o ho => by
          obtain ⟨-, p, hp, rfl⟩ := HM.out o ho
          have := HOK.out p hp
          exact ⟨by have : 0 ≤ p.2.qty := by omega
                    exact this, this.2.1⟩) (fun i hi => by
          obtain ⟨g, f1, f2, f3, f4⟩ := hva i hi
          exact ⟨g, f1, f3, f4⟩))
        clear hva
        go_wp2_with fail
        refine HOF.out.mono ?_
        rintro e w2 ⟨v, rfl, hos⟩
        rw [HPQ.out] at hos
        have H3 := Lib.hid (H.out.bel.trans (hos.bel.mono H.out.le))
        have H2 := Lib.hid (hos.lvrow.mono H.out.le)
        clear HOF
        obtain ⟨a2, c2, rfl, hc1', hc2', -⟩ := hos.lvrow
        clear hos hc2
        have hc2 := hc2'
        clear hc2'
        unfold maxLen at hc2
        by_cases hm0 : 0 ≤ most
        · by_cases hm1 : most < (ofL side (restV L sym side)).length
          · have HE := Lib.hid (show cutF most (ofL side (restV L sym side)) = (ofL side (restV L sym side)).take most.toNat by simp [cutF, hm0, hm1])
            obtain ⟨m, rfl⟩ := Int.eq_ofNat_of_zero_le hm0
            have HR := Lib.hid (H2.out.cut (m := m) (by omega))
            go_wp2_with fail
            go_ret
            exact ⟨_, rfl, by rw [HE.out]; exact HR.out, H3.out⟩
          · have HE := Lib.hid (show cutF most (ofL side (restV L sym side)) = ofL side (restV L sym side) by simp [cutF, hm1])
            go_wp2_with fail
            go_ret
            exact ⟨_, rfl, by rw [HE.out]; exact H2.out, H3.out⟩
        · have HE := Lib.hid (show cutF most (ofL side (restV L sym side)) = ofL side (restV L sym side) by simp [cutF, hm0])
          go_wp2_with fail
          go_ret
          exact ⟨_, rfl, by rw [HE.out]; exact H2.out, H3.out⟩
      · have hF : fil L sym side = [] := List.eq_nil_of_length_eq_zero (by omega)
        have hV : restV L sym side = [] := by rw [← HPQ.out, hF]; rfl
        rw [hF] at H
        have hnil := H.out.nil rfl
        subst hnil
        have HC := Lib.hid (show cutF most (ofL side (restV L sym side)) = [] by rw [hV]; simp [cutF, ofL])
        have H3 := Lib.hid H.out.bel
        clear H HPQ HM hF hV h0 hfl
        go_wp2_with fail
        refine (rof_nil _).mono ?_
        rintro e w2 ⟨rfl, rfl⟩
        by_cases hm0 : 0 ≤ most
        · go_wp2_with fail
          go_ret
          exact ⟨_, rfl, by rw [HC.out]; exact lvrow_nil _ _, H3.out⟩
        · go_wp2_with fail
          go_ret
          exact ⟨_, rfl, by rw [HC.out]; exact lvrow_nil _ _, H3.out⟩
end Go.Proofs.Ytogjgpiddjmpiaa.Depth

/- damperlaw33.small and .back; the document's Same. -/
namespace Go.Proofs.Ytogjgpiddjmpiaa.Depth
open Go.RowKit Go.Proofs.Ytogjgpiddjmpiaa.Kit Go.Proofs.Ytogjgpiddjmpiaa.Blk Go.Proofs.Ytogjgpiddjmpiaa.Mp Go.Proofs.Ytogjgpiddjmpiaa.Msgs Go.Proofs.Ytogjgpiddjmpiaa.Octets Go.Proofs.Ytogjgpiddjmpiaa.Tape
attribute [local go_sem ↓] Go.wp_at_zero Go.wp_at_succ
set_option linter.unusedVariables false

def smallQ (m : Msg) : Bool := decide (-1125899906842624 ≤ m.qty) && decide (m.qty ≤ 1125899906842624)
def smallB (l : List Msg) : Bool := decide (l.length ≤ 120) && l.all smallQ
theorem small_bad {l : List Msg} {k : Nat} (h : k < l.length) (hq : ¬ (-1125899906842624 ≤ l[k].qty ∧ l[k].qty ≤ 1125899906842624)) : smallB l = false := by
  cases hs : smallB l with
  | false => rfl
  | true =>
    simp only [smallB, Bool.and_eq_true, List.all_eq_true, smallQ, decide_eq_true_eq] at hs
    exact absurd (hs.2 _ (List.getElem_mem h)) hq
theorem small_good {l : List Msg} (h0 : l.length ≤ 120) (h : ∀ j, (hj : j < l.length) → -1125899906842624 ≤ l[j].qty ∧ l[j].qty ≤ 1125899906842624) : smallB l = true := by
  simp only [smallB, Bool.and_eq_true, List.all_eq_true, smallQ, decide_eq_true_eq]
  refine ⟨h0, fun m hm => ?_⟩
  obtain ⟨j, hj, rfl⟩ := List.getElem_of_mem hm
  exact h j hj
theorem small_get {l : List Msg} (h : smallB l = true) : l.length ≤ 120 ∧ ∀ m ∈ l, -1125899906842624 ≤ m.qty ∧ m.qty ≤ 1125899906842624 := by
  simp only [smallB, Bool.and_eq_true, List.all_eq_true, smallQ, decide_eq_true_eq] at h
  exact h
set_option maxHeartbeats 2000000 in
theorem small_any (a : Option Addr) (cap : Nat) (l : List Msg) (w : World) (hl : l.length ≤ maxLen) (hr : MsgRow w a l) :
    Calls Try.prog 34 #[.slice a l.length cap] w fun e w' => e = .returned (.bool (smallB l)) ∧ w = w' := by
  unfold maxLen at hl
  by_cases h0 : 120 < l.length
  · have HE := Lib.hid (show smallB l = false by simp [smallB]; omega)
    go_enter Try.func34, Try.ntmps34
    go_wp2_with fail
    go_ret
    exact ⟨by rw [HE.out]; rfl, rfl⟩
  · have hl0 : ¬ (120 < (l.length : Int)) := by omega
    go_enter Try.func34, Try.ntmps34
    go_wp2_with fail
    go_loop [3] (fun i => ∃ k : Nat, k ≤ l.length ∧ i = .int .i64 k ∧ ∀ j, (hj : j < l.length) → j < k → -1125899906842624 ≤ l[j].qty ∧ l[j].qty ≤ 1125899906842624) (fun i => l.length - (intOf i).toNat)
    case atStart => exact ⟨0, by omega, rfl, fun j _ h => absurd h (by omega)⟩
    case round =>
      obtain ⟨k, hk, rfl, hno⟩ := hrel
      have HNO := Lib.hid hno
      clear hno
      by_cases hlt : k < l.length
      · obtain ⟨b, off, rfl, hb, hc⟩ := hr k hlt
        have c7 : w.cell? ⟨b, off + k * 9 + 7, none⟩ = some (.int .i64 l[k].qty) := hc 7 _ rfl
        have HBD := Lib.hid (small_bad hlt)
        have HNX := Lib.hid (show (-1125899906842624 ≤ l[k].qty ∧ l[k].qty ≤ 1125899906842624) → ∀ j, (hj : j < l.length) → j < k + 1 → -1125899906842624 ≤ l[j].qty ∧ l[j].qty ≤ 1125899906842624 from fun h j hj hjk => by
          by_cases h1 : j < k
          · exact HNO.out j hj h1
          · obtain rfl : j = k := by omega
            exact h)
        clear hc hr
        generalize l[k].qty = q at *
        have g0 : (0 : Int) ≤ (k : Int) := by omega
        have g1 : (k : Int) < (l.length : Int) := by omega
        by_cases h1 : q < -1125899906842624
        · have HE := Lib.hid (HBD.out (by omega))
          go_wp2_with fail
          go_ret
          exact ⟨by rw [HE.out]; rfl, rfl⟩
        · by_cases h2 : 1125899906842624 < q
          · have HE := Lib.hid (HBD.out (by omega))
            go_wp2_with fail
            go_ret
            exact ⟨by rw [HE.out]; rfl, rfl⟩
          · have HE := Lib.hid (HNX.out (by omega))
            go_wp2_with fail
            go_round
            case rel => exact ⟨k + 1, by omega, by go_num, HE.out⟩
            case measure => simp [intOf]; omega
      · have HE := Lib.hid (small_good (by omega) (fun j hj => HNO.out j hj (by omega)))
        go_wp2_with fail
        go_ret
        exact ⟨by rw [HE.out]; rfl, rfl⟩

theorem gl_lvrow {n0 T : Nat} {w W : World} {v : Value} {S : List Lvl} (h : GL n0 T 3 w W v S.length (rowsL S)) : LvRow W n0 v S := by
  obtain ⟨a, c, h1, h2, h3, h4⟩ := owned_at Lvl.cells 3 lvl_size h.own
  exact ⟨a, c, h1, h2, h3, fun i hi => by
    obtain ⟨g, g1, g2, g3, g4⟩ := h4 i hi
    exact ⟨g, g1, g2, g3, fun j u hu => g4 j u (by simpa using hu)⟩⟩
/-- What back answers. -/
def BackIs (S : List Lvl) (w : World) (e : Ending) (w' : World) : Prop := ∃ v, e = .returned v ∧ LvRow w' w.heap.size v S ∧ Below w.heap.size w w'
set_option maxRecDepth 20000 in
set_option maxHeartbeats 2000000 in
theorem back_any (N : Nat) (v : Value) (S : List Lvl) (w : World) (h : LvRow w N v S) (hl : S.length ≤ 1000) :
    Calls Try.prog 40 #[v] w (BackIs S w) := by
  obtain ⟨a, cap, rfl, hc1, hc2, hat⟩ := h
  unfold maxLen at hc2
  have HAT := Lib.hid hat
  clear hat
  obtain ⟨i0, hi0, hz0, hz1, hz2⟩ := info_parts infoRL
  go_enter Try.func40, Try.ntmps40
  go_wp2_with fail
  go_loopw [3, 4] (fun v i wr => ∃ k : Nat, k ≤ S.length ∧ i = .int .i64 k ∧ GL w.heap.size 94 3 w wr v (S.take k).length (rowsL (S.take k))) (fun _ i _ => S.length - (intOf i).toNat)
  case atStart => exact ⟨0, by omega, rfl, GL.start _ _ _ (Below.refl _ _) (Nat.le_refl _)⟩
  case round =>
    obtain ⟨k, hk, rfl, hgl⟩ := hrel
    have H := Lib.hid hgl
    clear hgl
    by_cases hlt : k < S.length
    · obtain ⟨g, rfl, hgn, hgw, hcell⟩ := HAT.out k hlt
      have HTK := Lib.hid (show S.take (k + 1) = S.take k ++ [S[k]] from List.take_succ_eq_append_getElem hlt)
      have hlen : (S.take k).length ≤ 1000 := by rw [List.length_take]; omega
      have HCS := Lib.hid (show ∀ W, Below w.heap.size w W → W.cell? ⟨g, k * 3, none⟩ = some (.int .i64 S[k].price) ∧ W.cell? ⟨g, k * 3 + 1, none⟩ = some (.int .i64 S[k].qty) ∧ W.cell? ⟨g, k * 3 + 2, none⟩ = some (.int .i64 S[k].ords) from fun W hb => by
        rw [hb.cell (p := ⟨g, _, none⟩) hgw, hb.cell (p := ⟨g, _, none⟩) hgw, hb.cell (p := ⟨g, _, none⟩) hgw]
        exact ⟨hcell 0 _ rfl, hcell 1 _ rfl, hcell 2 _ rfl⟩)
      clear hcell
      generalize S[k] = x at *
      generalize S.take k = F at *
      have g0 : (0 : Int) ≤ (k : Int) := by omega
      have g1 : (k : Int) < (S.length : Int) := by omega
      go_upto_region 5 with fail
      refine wp_region_held_drew (S := (fun w' => w'.cell? ⟨g, k * 3, none⟩ = some (.int .i64 x.price) ∧ w'.cell? ⟨g, k * 3 + 1, none⟩ = some (.int .i64 x.qty) ∧ w'.cell? ⟨g, k * 3 + 2, none⟩ = some (.int .i64 x.ords))) (by kernel_rfl) (HCS.out _ H.out.bel.drew) (fun hHeld => ?_)
      replace H := Lib.hid H.out.drew
      generalize wr.drew = w3 at H hHeld ⊢
      refine wpAnyH_take (i := 0) (oi := ⟨some 11, _, _, _, _, _⟩) (v := ?_) rfl (by kernel_rfl) (by kernel_rfl) (by kernel_rfl) (fun _ _ _ h => h) (Or.inl ⟨by rfl, ?_⟩) (by assumption) ?_
      rotate_left
      · (intro w hSw; (try dsimp only at hSw); go_simp; (try with_reducible rfl))
      simp only [Act.put, List.setIfInBounds_toArray, List.set_cons_zero, List.set_cons_succ]
      refine wpAnyH_take (i := 1) (oi := ⟨some 12, _, _, _, _, _⟩) (v := ?_) rfl (by kernel_rfl) (by kernel_rfl) (by kernel_rfl) (fun _ _ _ h => h) (Or.inl ⟨by rfl, ?_⟩) (by assumption) ?_
      rotate_left
      · (intro w hSw; (try dsimp only at hSw); go_simp; (try with_reducible rfl))
      simp only [Act.put, List.setIfInBounds_toArray, List.set_cons_zero, List.set_cons_succ]
      refine wpAnyH_take (i := 2) (oi := ⟨some 13, _, _, _, _, _⟩) (v := ?_) rfl (by kernel_rfl) (by kernel_rfl) (by kernel_rfl) (fun _ _ _ h => h) (Or.inl ⟨by rfl, ?_⟩) (by assumption) ?_
      rotate_left
      · (intro w hSw; (try dsimp only at hSw); go_simp; (try with_reducible rfl))
      simp only [Act.put, List.setIfInBounds_toArray, List.set_cons_zero, List.set_cons_succ]
      refine wpAnyH_take (i := 3) (oi := ⟨some 14, _, _, _, _, _⟩) (v := ?_) rfl (by kernel_rfl) (by kernel_rfl) (by kernel_rfl) (fun _ _ _ h => h) (Or.inl ⟨by rfl, ?_⟩) (by assumption) ?_
      rotate_left
      · (intro w hSw; (try dsimp only at hSw); go_simp; (try with_reducible rfl))
      simp only [Act.put, List.setIfInBounds_toArray, List.set_cons_zero, List.set_cons_succ]
      refine wpAnyH_take (i := 4) (oi := ⟨some 15, _, _, _, _, _⟩) (v := ?_) rfl (by kernel_rfl) (by kernel_rfl) (by kernel_rfl) (fun _ _ _ h => h) (Or.inl ⟨by rfl, ?_⟩) (by assumption) ?_
      rotate_left
      · (intro w hSw; (try dsimp only at hSw); go_simp; (try with_reducible rfl))
      simp only [Act.put, List.setIfInBounds_toArray, List.set_cons_zero, List.set_cons_succ]
      refine wpAnyH_take (i := 5) (oi := ⟨some 16, _, _, _, _, _⟩) (v := ?_) rfl (by kernel_rfl) (by kernel_rfl) (by kernel_rfl) (fun _ _ _ h => h) (Or.inl ⟨by rfl, ?_⟩) (by assumption) ?_
      rotate_left
      · (intro w hSw; (try dsimp only at hSw); go_simp; (try with_reducible rfl))
      simp only [Act.put, List.setIfInBounds_toArray, List.set_cons_zero, List.set_cons_succ]
      refine wpAnyH_take (i := 6) (oi := ⟨some 17, _, _, _, _, _⟩) (v := ?_) rfl (by kernel_rfl) (by kernel_rfl) (by kernel_rfl) (fun _ _ _ h => h) (Or.inl ⟨by rfl, ?_⟩) (by assumption) ?_
      rotate_left
      · (intro w hSw; (try dsimp only at hSw); go_simp; (try with_reducible rfl))
      simp only [Act.put, List.setIfInBounds_toArray, List.set_cons_zero, List.set_cons_succ]
      refine wpAnyH_take (i := 7) (oi := ⟨some 18, _, _, _, _, _⟩) (v := ?_) rfl (by kernel_rfl) (by kernel_rfl) (by kernel_rfl) (fun _ _ _ h => h) (Or.inl ⟨by rfl, ?_⟩) (by assumption) ?_
      rotate_left
      · (intro w hSw; (try dsimp only at hSw); go_simp; (try with_reducible rfl))
      simp only [Act.put, List.setIfInBounds_toArray, List.set_cons_zero, List.set_cons_succ]
      refine wpAnyH_take (i := 8) (oi := ⟨some 19, _, _, _, _, _⟩) (v := ?_) rfl (by kernel_rfl) (by kernel_rfl) (by kernel_rfl) (fun _ _ _ h => h) (Or.inl ⟨by rfl, ?_⟩) (by assumption) ?_
      rotate_left
      · (intro w hSw; (try dsimp only at hSw); go_simp; (try with_reducible rfl))
      simp only [Act.put, List.setIfInBounds_toArray, List.set_cons_zero, List.set_cons_succ]
      refine wpAnyH_take (i := 9) (oi := ⟨some 20, _, _, _, _, _⟩) (v := ?_) rfl (by kernel_rfl) (by kernel_rfl) (by kernel_rfl) (fun _ _ _ h => h) (Or.inl ⟨by rfl, ?_⟩) (by assumption) ?_
      rotate_left
      · (intro w hSw; (try dsimp only at hSw); go_simp; (try with_reducible rfl))
      simp only [Act.put, List.setIfInBounds_toArray, List.set_cons_zero, List.set_cons_succ]
      refine wpAnyH_take (i := 10) (oi := ⟨some 21, _, _, _, _, _⟩) (v := ?_) rfl (by kernel_rfl) (by kernel_rfl) (by kernel_rfl) (fun _ _ _ h => h) (Or.inl ⟨by rfl, ?_⟩) (by assumption) ?_
      rotate_left
      · (intro w hSw; (try dsimp only at hSw); go_simp; (try with_reducible rfl))
      simp only [Act.put, List.setIfInBounds_toArray, List.set_cons_zero, List.set_cons_succ]
      refine wpAnyH_take (i := 11) (oi := ⟨some 22, _, _, _, _, _⟩) (v := ?_) rfl (by kernel_rfl) (by kernel_rfl) (by kernel_rfl) (fun _ _ _ h => h) (Or.inl ⟨by rfl, ?_⟩) (by assumption) ?_
      rotate_left
      · (intro w hSw; (try dsimp only at hSw); go_simp; (try with_reducible rfl))
      simp only [Act.put, List.setIfInBounds_toArray, List.set_cons_zero, List.set_cons_succ]
      refine wpAnyH_take (i := 12) (oi := ⟨some 23, _, _, _, _, _⟩) (v := ?_) rfl (by kernel_rfl) (by kernel_rfl) (by kernel_rfl) (fun _ _ _ h => h) (Or.inl ⟨by rfl, ?_⟩) (by assumption) ?_
      rotate_left
      · (intro w hSw; (try dsimp only at hSw); go_simp; (try with_reducible rfl))
      simp only [Act.put, List.setIfInBounds_toArray, List.set_cons_zero, List.set_cons_succ]
      refine wpAnyH_take (i := 13) (oi := ⟨some 24, _, _, _, _, _⟩) (v := ?_) rfl (by kernel_rfl) (by kernel_rfl) (by kernel_rfl) (fun _ _ _ h => h) (Or.inl ⟨by rfl, ?_⟩) (by assumption) ?_
      rotate_left
      · (intro w hSw; (try dsimp only at hSw); go_simp; (try with_reducible rfl))
      simp only [Act.put, List.setIfInBounds_toArray, List.set_cons_zero, List.set_cons_succ]
      refine wpAnyH_take (i := 14) (oi := ⟨some 25, _, _, _, _, _⟩) (v := ?_) rfl (by kernel_rfl) (by kernel_rfl) (by kernel_rfl) (fun _ _ _ h => h) (Or.inl ⟨by rfl, ?_⟩) (by assumption) ?_
      rotate_left
      · (intro w hSw; (try dsimp only at hSw); go_simp; (try with_reducible rfl))
      simp only [Act.put, List.setIfInBounds_toArray, List.set_cons_zero, List.set_cons_succ]
      refine wpAnyH_take (i := 15) (oi := ⟨some 26, _, _, _, _, _⟩) (v := ?_) rfl (by kernel_rfl) (by kernel_rfl) (by kernel_rfl) (fun _ _ _ h => h) (Or.inl ⟨by rfl, ?_⟩) (by assumption) ?_
      rotate_left
      · (intro w hSw; (try dsimp only at hSw); go_simp; (try with_reducible rfl))
      simp only [Act.put, List.setIfInBounds_toArray, List.set_cons_zero, List.set_cons_succ]
      refine wpAnyH_take (i := 16) (oi := ⟨some 27, _, _, _, _, _⟩) (v := ?_) rfl (by kernel_rfl) (by kernel_rfl) (by kernel_rfl) (fun _ _ _ h => h) (Or.inl ⟨by rfl, ?_⟩) (by assumption) ?_
      rotate_left
      · (intro w hSw; (try dsimp only at hSw); go_simp; (try with_reducible rfl))
      simp only [Act.put, List.setIfInBounds_toArray, List.set_cons_zero, List.set_cons_succ]
      refine wpAnyH_ready (rs := [17]) (by kernel_rfl) (by simp) ?_
      refine AllReadyH.cons (o := ⟨some 28, _, _, _, _, _⟩) rfl (fun KK hK => ?_) AllReadyH.nil
      go_simp
      change KK _ (w3.alloc (.cells (Lvl.cells x) 94))
      have HN := Lib.hid (H.out.new (Lvl.cells x))
      clear H
      generalize w3.alloc (.cells (Lvl.cells x) 94) = WX1 at HN ⊢
      generalize w3.heap.size = nb1 at HN ⊢
      have H := Lib.hid HN.out.gl
      refine hK.out _ _ (HCS.out _ H.out.bel) (fun hHeld => ?_)
      clear hK; try clear KK
      try simp only [Act.put, List.setIfInBounds_toArray, List.set_cons_zero, List.set_cons_succ]
      refine wpAnyH_ready (rs := [18]) (by kernel_rfl) (by simp) ?_
      refine AllReadyH.cons (o := ⟨some 29, _, _, _, _, _⟩) rfl (fun KK hK => ?_) AllReadyH.nil
      clear H
      refine GN.step HN.out (by rfl) _ _ _ (by rfl) i0 (.agg #[.int .i64 0, .int .i64 0, .int .i64 0]) 24 Try.underlying77 hi0 hz0 hz1 hz2 (by rfl) (by decide) (by rfl) (by rfl) (lvl_size _) (one_mem (one_lvl _)) (by unfold maxLen; omega) (by omega) ?_
      intro g5 cap5 WX2 H'
      have H := Lib.hid H'
      clear H' HN
      refine hK.out _ _ (HCS.out _ H.out.bel) (fun hHeld => ?_)
      clear hK; try clear KK
      try simp only [Act.put, List.setIfInBounds_toArray, List.set_cons_zero, List.set_cons_succ]
      refine wpAnyH_take (i := 19) (oi := ⟨some 3, _, _, _, _, _⟩) (v := ?_) rfl (by kernel_rfl) (by kernel_rfl) (by kernel_rfl) (fun _ _ _ h => h) (Or.inl ⟨by rfl, ?_⟩) (by assumption) ?_
      rotate_left
      · (intro w hSw; (try dsimp only at hSw); go_simp; (try with_reducible rfl))
      simp only [Act.put, List.setIfInBounds_toArray, List.set_cons_zero, List.set_cons_succ]
      refine wpAnyH_done (by kernel_rfl) ?_ _
      go_wp2_with fail
      go_roundw
      case rel => exact ⟨k + 1, by omega, by go_num, by rw [HTK.out]; simpa [rowsL] using H.out⟩
      case measure => simp [intOf]; omega
    · obtain rfl : k = S.length := by omega
      rw [List.take_length] at H
      have HL := Lib.hid (gl_lvrow H.out)
      have HB := Lib.hid H.out.bel
      clear H
      go_wp2_with fail
      go_ret
      exact ⟨_, rfl, HL.out, HB.out⟩

set_option maxRecDepth 20000 in
set_option maxHeartbeats 2000000 in
theorem rsame_any (N M : Nat) (v u : Value) (S : List Lvl) (w : World) (h : LvRow w N v S) (h2 : LvRow w M u S) :
    Calls Try.prog 39 #[v, u] w fun e w' => e = .returned (.bool true) ∧ Below w.heap.size w w' := by
  obtain ⟨a, cap, rfl, hc1, hc2, hat⟩ := h
  obtain ⟨a2, cap2, rfl, hd1, hd2, hat2⟩ := h2
  unfold maxLen at hc2
  have HAT := Lib.hid hat
  have HAT2 := Lib.hid hat2
  have hlen : S.length ≤ 2 ^ 63 - 1 := by omega
  clear hat hat2 hc1 hd1 hd2
  go_enter Try.func39, Try.ntmps39
  go_wp2_with fail
  go_loopw [5] (fun i wr => ∃ k : Nat, k ≤ S.length ∧ i = .int .i64 k ∧ Below w.heap.size w wr) (fun i _ => S.length - (intOf i).toNat)
  case atStart => exact ⟨0, by omega, rfl, Below.refl _ _⟩
  case round =>
    obtain ⟨k, hk, rfl, hb⟩ := hrel
    have HB := Lib.hid hb
    clear hb
    by_cases hlt : k < S.length
    · obtain ⟨g, rfl, -, hgw, hcell⟩ := HAT.out k hlt
      obtain ⟨g2, rfl, -, hgw2, hcell2⟩ := HAT2.out k hlt
      have c0 : wr.cell? ⟨g, k * 3, none⟩ = some (.int .i64 S[k].price) := by rw [HB.out.cell (p := ⟨g, _, none⟩) hgw]; exact hcell 0 _ rfl
      have c1 : wr.cell? ⟨g, k * 3 + 1, none⟩ = some (.int .i64 S[k].qty) := by rw [HB.out.cell (p := ⟨g, _, none⟩) hgw]; exact hcell 1 _ rfl
      have c2 : wr.cell? ⟨g, k * 3 + 2, none⟩ = some (.int .i64 S[k].ords) := by rw [HB.out.cell (p := ⟨g, _, none⟩) hgw]; exact hcell 2 _ rfl
      have d0 : wr.cell? ⟨g2, k * 3, none⟩ = some (.int .i64 S[k].price) := by rw [HB.out.cell (p := ⟨g2, _, none⟩) hgw2]; exact hcell2 0 _ rfl
      have d1 : wr.cell? ⟨g2, k * 3 + 1, none⟩ = some (.int .i64 S[k].qty) := by rw [HB.out.cell (p := ⟨g2, _, none⟩) hgw2]; exact hcell2 1 _ rfl
      have d2 : wr.cell? ⟨g2, k * 3 + 2, none⟩ = some (.int .i64 S[k].ords) := by rw [HB.out.cell (p := ⟨g2, _, none⟩) hgw2]; exact hcell2 2 _ rfl
      clear hcell hcell2
      generalize S[k] = x at *
      have g0 : (0 : Int) ≤ (k : Int) := by omega
      have g1 : (k : Int) < (S.length : Int) := by omega
      go_wp2_with fail
      go_quiet (fail)
      replace HB := Lib.hid (HB.out.drewN nq)
      generalize wr.drewN nq = w2 at HB ⊢
      clear c0 c1 c2 d0 d1 d2
      go_wp2_with fail
      go_roundw
      case rel => exact ⟨k + 1, by omega, by go_num, HB.out⟩
      case measure => simp [intOf]; omega
    · go_wp2_with fail
      go_ret
      exact ⟨rfl, HB.out⟩
end Go.Proofs.Ytogjgpiddjmpiaa.Depth

/- damperlaw33.DepthPlays: the walk. -/
namespace Go.Proofs.Ytogjgpiddjmpiaa.Depth
open Go.RowKit Go.Proofs.Ytogjgpiddjmpiaa.Kit Go.Proofs.Ytogjgpiddjmpiaa.Blk Go.Proofs.Ytogjgpiddjmpiaa.Mp Go.Proofs.Ytogjgpiddjmpiaa.Msgs Go.Proofs.Ytogjgpiddjmpiaa.Octets Go.Proofs.Ytogjgpiddjmpiaa.Tape
attribute [local go_sem ↓] Go.wp_at_zero Go.wp_at_succ
set_option linter.unusedVariables false

theorem RS.chg {N R d n : Nat} {W W' : World} {L : List (Key × Rest)} (h : RS N W R L) (hc : Chg W.heap.size d W W') (hd : d < N) (hR : R ≠ d) : RS N W' R L := by
  obtain ⟨v, h1, h2, h3, h4⟩ := h
  exact ⟨v, hc.blk h1.lt hR h1, h2, h3.kept (row := some d) ⟨hc.os, hc.tape, hc.output, hc.size, fun k hk hne => hc.block k hk (fun e => hne (congrArg some e))⟩ (.inr (fun e => by have := (h3.lt _ e).1; omega)), h4⟩
/-- Both depths: the program's and the document's. -/
structure PS (w W : World) (D b N R : Nat) (L M : List (Key × Rest)) : Prop where
  ds : DS W D b L
  rs : RS N W R M
  bel : Below w.heap.size w W
  geb : w.heap.size ≤ b
  geR : w.heap.size ≤ R
  bN : b < N
  Rb : R ≠ b
  RD : R ≠ D
  le : N ≤ W.heap.size
section
variable {w W W' : World} {D b N R : Nat} {L L' M M' : List (Key × Rest)}
theorem PS.below (h : PS w W D b N R L M) (hb : Below W.heap.size W W') : PS w W' D b N R L M :=
  ⟨h.ds.below hb, h.rs.below hb, h.bel.trans (hb.mono h.bel.size), h.geb, h.geR, h.bN, h.Rb, h.RD, Nat.le_trans h.le hb.size⟩
theorem PS.put (h : PS w W D b N R L M) (hd : DS W' D b L') (hc : Chg W.heap.size b W W') : PS w W' D b N R L' M :=
  ⟨hd, h.rs.chg (n := 0) hc h.bN h.Rb, h.bel.trans (hc.below' (m := w.heap.size) h.geb h.bel.size), h.geb, h.geR, h.bN, h.Rb, h.RD, Nat.le_trans h.le hc.size⟩
theorem PS.rput (h : PS w W D b N R L M) (hr : RS N W' R M') (hc : Chg W.heap.size R W W') : PS w W' D b N R L M' :=
  ⟨⟨hc.blk h.ds.box.lt (Ne.symm h.RD) h.ds.box, h.ds.map.chg hc h.ds.map.lt (Ne.symm h.Rb)⟩, hr, h.bel.trans (hc.below' (m := w.heap.size) h.geR h.bel.size), h.geb, h.geR, h.bN, h.Rb, h.RD, Nat.le_trans h.le hc.size⟩
theorem PS.drew (h : PS w W D b N R L M) : PS w W.drew D b N R L M := h.below (Below.refl _ _).drew
end
theorem less_len0 (L : List (Key × Rest)) (k : Key) (q : Int) : (lessF L k q).1.length ≤ L.length := by
  cases hk : mget k L with
  | none => rw [less_no hk]; simp
  | some x =>
    obtain ⟨hi, -⟩ := midx_at hk
    unfold lessF
    rw [hk]
    dsimp only
    split
    · rw [mput_at hk]; simp; omega
    · rw [mdel_at hk]; simp; omega
theorem put_len (L : List (Key × Rest)) (m : Msg) : (putF L m).1.length ≤ L.length + 1 := by
  unfold putF
  split
  · split
    · simp
    · exact mput_len _ _ _
  · split
    · split
      · simp
      · split
        · exact Nat.le_trans (less_len0 _ _ _) (Nat.le_succ _)
        · exact Nat.le_trans (less_len0 _ _ _) (Nat.le_trans (less_len0 _ _ _) (Nat.le_succ _))
    · split
      · split
        · simp
        · exact Nat.le_trans (less_len0 _ _ _) (Nat.le_succ _)
      · simp
theorem ps_new {w w1 : World} (hd : DS w1 (w.heap.size + 1) w.heap.size []) (hb : Below w.heap.size w w1) :
    PS w (w1.alloc (.cells #[.slice none 0 0] 74)) (w.heap.size + 1) w.heap.size (w1.heap.size + 1) w1.heap.size [] [] := by
  have h1 := hd.box.lt
  refine ⟨hd.alloc _, ⟨_, Blk.new _ _ _ _ rfl, by omega, World.ownsRow_nil _ _ _ _, fun _ => rfl⟩, hb.alloc hb.size _, Nat.le_refl _, hb.size, by omega, by omega, by omega, by simp⟩
theorem levels_same {L : List (Key × Rest)} {sym side : Int} (hs : side = 0 ∨ side = 1) {S : List Lvl} (h : LvS side (restV L sym side) S) : S = ofL side (restV L sym side) :=
  lvS_unique (List.Perm.refl _) h (lvS_ofL hs _)
/-- The row of messages in all later worlds. -/
theorem row_all {w : World} {a : Option Addr} {l : List Msg} (hr : MsgRow w a l) {k : Nat} (hk : k < l.length) : ∃ b off, a = some ⟨b, off, none⟩ ∧ ∀ W, Below w.heap.size w W → W.rangeAt b (off + k * 9) l[k].cells.toList := by
  obtain ⟨b, off, ha, hb, hc⟩ := msgRow_at hr k hk
  exact ⟨b, off, ha, fun W h j u hu => by rw [h.cell (p := ⟨b, _, none⟩) hb]; exact hc j u hu⟩
theorem cut_len {S : List Lvl} {most : Int} {n : Nat} (h : S.length ≤ n) : (cutF most S).length ≤ n := by
  unfold cutF; split
  · rw [List.length_take]; omega
  · exact h
theorem ofL_len (side : Int) (V : List PQ) : (ofL side V).length ≤ V.length := by
  have : ∀ V : List PQ, (ofL side V.reverse).length ≤ V.reverse.length := fun V => by
    induction V with
    | nil => simp [ofL]
    | cons x V ih =>
      rw [List.reverse_cons, ofL_snoc]
      have : ∀ S : List Lvl, (insL side S x).length ≤ S.length + 1 := fun S => by
        induction S with
        | nil => simp [insL]
        | cons y S ih =>
          unfold insL
          split
          · simp
          · split
            · simp
            · simp; exact ih
      have := this (ofL side V.reverse)
      simp only [List.length_append, List.length_cons, List.length_nil]
      omega
  have h := this V.reverse
  rwa [List.reverse_reverse] at h
set_option maxRecDepth 20000 in
set_option maxHeartbeats 8000000 in
theorem plays_law (a : Option Addr) (cap : Nat) (l : List Msg) (sym most : Int) (w : World) (hr : MsgRow w a l) (hl : l.length ≤ maxLen) :
    Calls Try.prog 8 #[.slice a l.length cap, .int .i64 sym, .int .i64 most] w fun e w' => e = .returned (.bool true) ∧ Below w.heap.size w w' := by
  have HS := Lib.hid (small_any a cap l w hl hr)
  have HR := Lib.hid hr
  cases hsm : smallB l with
  | false =>
    rw [hsm] at HS
    clear hr hl hsm
    go_enter Try.func8, Try.ntmps8
    go_wp2_with fail
    refine HS.out.mono ?_
    rintro e w1 ⟨rfl, rfl⟩
    go_wp2_with fail
    refine (alive_any _).mono ?_
    rintro e w2 ⟨rfl, hb⟩
    go_wp2_with fail
    go_ret
    exact ⟨rfl, hb⟩
  | true =>
    rw [hsm] at HS
    obtain ⟨hl1, hq⟩ := small_get hsm
    have HQS := Lib.hid hq
    clear hr hl hsm hq
    go_enter Try.func8, Try.ntmps8
    go_wp2_with fail
    refine HS.out.mono ?_
    rintro e w1 ⟨rfl, rfl⟩
    clear HS
    go_wp2_with fail
    refine (new_any w).mono ?_
    rintro e w1 ⟨rfl, hd, hb⟩
    have H := Lib.hid (ps_new hd hb)
    clear hd hb
    go_wp2_with fail
    generalize w1.alloc (.cells #[.slice none 0 0] 74) = w2 at H ⊢
    generalize w.heap.size + 1 = D at H ⊢
    generalize hN : w1.heap.size + 1 = N at H ⊢
    have HN := Lib.hid hN
    clear hN
    generalize w1.heap.size = R at H HN ⊢
    obtain ⟨b, hb⟩ : ∃ b, b = w.heap.size := ⟨_, rfl⟩
    rw [← hb] at H
    go_loopw [9] (fun i wr => ∃ k : Nat, k ≤ l.length ∧ i = .int .i64 k ∧ ∃ L, PS w wr D b N R L L ∧ OkL L ∧ L.length ≤ k) (fun i _ => l.length - (intOf i).toNat)
    case atStart => exact ⟨0, by omega, rfl, [], H.out, fun p hp => by simp at hp, by simp⟩
    case round =>
      clear H HN
      obtain ⟨k, hk, rfl, L, hps, hok, hlen⟩ := hrel
      have H := Lib.hid hps
      have HOK := Lib.hid hok
      clear hps hok
      by_cases hlt : k < l.length
      · obtain ⟨gb, off, rfl, hrow⟩ := row_all HR.out hlt
        have HROW := Lib.hid hrow
        have HQ := Lib.hid (HQS.out l[k] (List.getElem_mem hlt)).2
        clear hrow
        generalize l[k] = m at *
        have g0 : (0 : Int) ≤ (k : Int) := by omega
        have g1 : (k : Int) < (l.length : Int) := by omega
        have HE := Lib.hid (show OkL (putF L m).1 ∧ (putF L m).1.length ≤ k + 1 from ⟨ok_put HOK.out m HQ.out, by have := put_len L m; omega⟩)
        go_upto_region 8 with fail
        refine wp_region_held_drew (S := (fun w' => w'.rangeAt gb (off + k * 9) m.cells.toList)) (by kernel_rfl) (HROW.out _ H.out.bel.drew) (fun hHeld => ?_)
        replace H := Lib.hid H.out.drew
        generalize wr.drew = w3 at H hHeld ⊢
        refine wpAnyH_take (i := 0) (oi := ⟨some 24, _, _, _, _, _⟩) (v := ?_) rfl (by kernel_rfl) (by kernel_rfl) (by kernel_rfl) (fun _ _ _ h => h) (Or.inl ⟨by rfl, ?_⟩) (by assumption) ?_
        rotate_left
        · (intro w hSw; (try dsimp only at hSw); go_simp; (try with_reducible rfl))
        simp only [Act.put, List.setIfInBounds_toArray, List.set_cons_zero, List.set_cons_succ]
        refine wpAnyH_take (i := 1) (oi := ⟨some 25, _, _, _, _, _⟩) (v := ?_) rfl (by kernel_rfl) (by kernel_rfl) (by kernel_rfl) (fun _ _ _ h => h) (Or.inl ⟨by rfl, ?_⟩) (by assumption) ?_
        rotate_left
        · (intro w hSw; (try dsimp only at hSw); go_simp; (try with_reducible rfl))
        simp only [Act.put, List.setIfInBounds_toArray, List.set_cons_zero, List.set_cons_succ]
        refine wpAnyH_take (i := 2) (oi := ⟨some 26, _, _, _, _, _⟩) (v := ?_) rfl (by kernel_rfl) (by kernel_rfl) (by kernel_rfl) (fun _ _ _ h => h) (Or.inl ⟨by rfl, ?_⟩) (by assumption) ?_
        rotate_left
        · (intro w hSw; (try dsimp only at hSw); go_simp; (try with_reducible rfl))
        simp only [Act.put, List.setIfInBounds_toArray, List.set_cons_zero, List.set_cons_succ]
        refine wpAnyH_take (i := 3) (oi := ⟨some 27, _, _, _, _, _⟩) (v := ?_) rfl (by kernel_rfl) (by kernel_rfl) (by kernel_rfl) (fun _ _ _ h => h) (Or.inl ⟨by rfl, ?_⟩) (by assumption) ?_
        rotate_left
        · (intro w hSw; (try dsimp only at hSw); go_simp; (try with_reducible rfl))
        simp only [Act.put, List.setIfInBounds_toArray, List.set_cons_zero, List.set_cons_succ]
        refine wpAnyH_take (i := 4) (oi := ⟨some 28, .load 66 (.tmp 27), _, _, _, _⟩) (v := _) rfl (by kernel_rfl) (by kernel_rfl) (by kernel_rfl) (fun _ _ _ h => h) (yieldsIf_load_mid (by rfl) _ _ rfl _ _ rfl _ _ (fun w h => h) Try.underlying66 rfl (by kernel_rfl)) (by assumption) ?_
        simp only [Act.put, List.setIfInBounds_toArray, List.set_cons_zero, List.set_cons_succ]
        refine wpAnyH_take (i := 6) (oi := ⟨some 30, _, _, _, _, _⟩) (v := ?_) rfl (by kernel_rfl) (by kernel_rfl) (by kernel_rfl) (fun _ _ _ h => h) (Or.inl ⟨by rfl, ?_⟩) (by assumption) ?_
        rotate_left
        · (intro w hSw; (try dsimp only at hSw); go_simp; (try with_reducible rfl))
        simp only [Act.put, List.setIfInBounds_toArray, List.set_cons_zero, List.set_cons_succ]
        refine wpAnyH_take (i := 7) (oi := ⟨some 31, _, _, _, _, _⟩) (v := ?_) rfl (by kernel_rfl) (by kernel_rfl) (by kernel_rfl) (fun _ _ _ h => h) (Or.inl ⟨by rfl, ?_⟩) (by assumption) ?_
        rotate_left
        · (intro w hSw; (try dsimp only at hSw); go_simp; (try with_reducible rfl))
        simp only [Act.put, List.setIfInBounds_toArray, List.set_cons_zero, List.set_cons_succ]
        refine wpAnyH_take (i := 8) (oi := ⟨some 32, _, _, _, _, _⟩) (v := ?_) rfl (by kernel_rfl) (by kernel_rfl) (by kernel_rfl) (fun _ _ _ h => h) (Or.inl ⟨by rfl, ?_⟩) (by assumption) ?_
        rotate_left
        · (intro w hSw; (try dsimp only at hSw); go_simp; (try with_reducible rfl))
        simp only [Act.put, List.setIfInBounds_toArray, List.set_cons_zero, List.set_cons_succ]
        refine wpAnyH_take (i := 9) (oi := ⟨some 33, _, _, _, _, _⟩) (v := ?_) rfl (by kernel_rfl) (by kernel_rfl) (by kernel_rfl) (fun _ _ _ h => h) (Or.inl ⟨by rfl, ?_⟩) (by assumption) ?_
        rotate_left
        · (intro w hSw; (try dsimp only at hSw); go_simp; (try with_reducible rfl))
        simp only [Act.put, List.setIfInBounds_toArray, List.set_cons_zero, List.set_cons_succ]
        refine wpAnyH_take (i := 10) (oi := ⟨some 34, .load 66 (.tmp 33), _, _, _, _⟩) (v := _) rfl (by kernel_rfl) (by kernel_rfl) (by kernel_rfl) (fun _ _ _ h => h) (yieldsIf_load_mid (by rfl) _ _ rfl _ _ rfl _ _ (fun w h => h) Try.underlying66 rfl (by kernel_rfl)) (by assumption) ?_
        simp only [Act.put, List.setIfInBounds_toArray, List.set_cons_zero, List.set_cons_succ]
        refine wpAnyH_ready (rs := [5]) (by kernel_rfl) (by simp) ?_
        refine AllReadyH.cons (o := ⟨some 29, _, _, _, _, _⟩) rfl (fun KK hK => ?_) AllReadyH.nil
        go_simp
        refine (put_any D b L m w3 H.out.ds HOK.out HQ.out).mono ?_
        rintro e WX1 ⟨rfl, hd, hc⟩
        replace H := Lib.hid (H.out.put hd hc)
        clear hd hc
        go_wp2_with fail
        refine hK.out _ _ (HROW.out _ H.out.bel) (fun hHeld => ?_)
        clear hK; try clear KK
        try simp only [Act.put, List.setIfInBounds_toArray, List.set_cons_zero, List.set_cons_succ]
        refine wpAnyH_ready (rs := [11]) (by kernel_rfl) (by simp) ?_
        refine AllReadyH.cons (o := ⟨some 35, _, _, _, _, _⟩) rfl (fun KK hK => ?_) AllReadyH.nil
        go_simp
        refine (rput_any N R L m WX1 H.out.rs H.out.le HOK.out (by omega) HQ.out).mono ?_
        rintro e WX2 ⟨rfl, hd, hc⟩
        replace H := Lib.hid (H.out.rput hd hc)
        clear hd hc
        go_wp2_with fail
        refine hK.out _ _ (HROW.out _ H.out.bel) (fun hHeld => ?_)
        clear hK; try clear KK
        try simp only [Act.put, List.setIfInBounds_toArray, List.set_cons_zero, List.set_cons_succ]
        refine wpAnyH_take (i := 12) (oi := ⟨some 36, _, _, _, _, _⟩) (v := ?_) rfl (by kernel_rfl) (by kernel_rfl) (by kernel_rfl) (fun _ _ _ h => h) (Or.inl ⟨by rfl, ?_⟩) (by assumption) ?_
        rotate_left
        · (intro w hSw; (try dsimp only at hSw); go_simp; (try with_reducible rfl))
        simp only [Act.put, List.setIfInBounds_toArray, List.set_cons_zero, List.set_cons_succ]
        refine wpAnyH_done (by kernel_rfl) ?_ _
        clear HOK HQ HROW hHeld
        generalize putF L m = P at H HE ⊢
        have hP : P.1.length ≤ k + 1 := HE.out.2
        have HOK := Lib.hid HE.out.1
        clear HE
        go_wp2_with fail
        go_loopw [10] (fun i wr => ∃ j : Nat, j ≤ 2 ∧ i = .int .i64 j ∧ PS w wr D b N R P.1 P.1) (fun i _ => 2 - (intOf i).toNat)
        case atStart => exact ⟨0, by omega, rfl, H.out⟩
        case round =>
          clear H
          obtain ⟨j, hj, rfl, hp⟩ := hrel
          have H := Lib.hid hp
          clear hp
          by_cases hj2 : j < 2
          · have HSD := Lib.hid (show (j : Int) = 0 ∨ (j : Int) = 1 by omega)
            have HCL := Lib.hid (show ∀ most, (cutF most (ofL (j : Int) (restV P.1 sym (j : Int)))).length ≤ 1000 from fun most => cut_len (by have := ofL_len (j : Int) (restV P.1 sym (j : Int)); have := restV_len P.1 sym (j : Int); omega))
            go_wp2_with fail
            refine (levels_any D b P.1 sym (j : Int) most _ H.out.ds HOK.out (by omega)).mono ?_
            rintro e w2 ⟨S, v, h1, rfl, h2, h3⟩
            obtain rfl := levels_same HSD.out h1
            replace H := Lib.hid (H.out.below h3)
            have HV := Lib.hid h2
            clear h1 h2 h3
            go_wp2_with fail
            refine (back_any _ v _ _ HV.out (HCL.out _)).mono ?_
            rintro e w3 ⟨v3, rfl, h2, h3⟩
            replace H := Lib.hid (H.out.below h3)
            have HV3 := Lib.hid h2
            clear h2 h3 HV
            go_wp2_with fail
            refine (rlevels_any N R P.1 sym (j : Int) most _ H.out.rs HOK.out (by omega) HSD.out).mono ?_
            rintro e w4 ⟨v4, rfl, h2, h3⟩
            replace H := Lib.hid (H.out.below h3)
            replace HV3 := Lib.hid (HV3.out.below h3)
            have HV4 := Lib.hid h2
            clear h2 h3
            go_wp2_with fail
            refine (rsame_any _ _ v3 v4 _ _ HV3.out HV4.out).mono ?_
            rintro e w5 ⟨rfl, h3⟩
            replace H := Lib.hid (H.out.below h3)
            clear h3 HV3 HV4
            go_wp2_with fail
            refine (levels_any D b P.1 sym (j : Int) (-1) _ H.out.ds HOK.out (by omega)).mono ?_
            rintro e w2 ⟨S, v, h1, rfl, h2, h3⟩
            obtain rfl := levels_same HSD.out h1
            replace H := Lib.hid (H.out.below h3)
            have HV := Lib.hid h2
            clear h1 h2 h3
            go_wp2_with fail
            refine (back_any _ v _ _ HV.out (HCL.out _)).mono ?_
            rintro e w3 ⟨v3, rfl, h2, h3⟩
            replace H := Lib.hid (H.out.below h3)
            have HV3 := Lib.hid h2
            clear h2 h3 HV
            go_wp2_with fail
            refine (rlevels_any N R P.1 sym (j : Int) (-1) _ H.out.rs HOK.out (by omega) HSD.out).mono ?_
            rintro e w4 ⟨v4, rfl, h2, h3⟩
            replace H := Lib.hid (H.out.below h3)
            replace HV3 := Lib.hid (HV3.out.below h3)
            have HV4 := Lib.hid h2
            clear h2 h3
            go_wp2_with fail
            refine (rsame_any _ _ v3 v4 _ _ HV3.out HV4.out).mono ?_
            rintro e w5 ⟨rfl, h3⟩
            replace H := Lib.hid (H.out.below h3)
            clear h3 HV3 HV4
            go_wp2_with fail
            go_roundw
            case rel => exact ⟨j + 1, by omega, by go_num, H.out⟩
            case measure => simp [intOf]; omega
          · obtain rfl : j = 2 := by omega
            go_wp2_with fail
            go_roundw
            case rel => exact ⟨k + 1, by omega, by go_num, P.1, H.out, HOK.out, hP⟩
            case measure => simp [intOf]; omega
      · have HL := Lib.hid (levels_any D b L sym 2 (-1) wr H.out.ds HOK.out (by omega))
        have HV2 := Lib.hid (show restV L sym 2 = [] from by
          rcases restV_side HOK.out sym 2 with h | h | h
          · exact absurd h (by decide)
          · exact absurd h (by decide)
          · exact h)
        go_wp2_with fail
        refine HL.out.mono ?_
        rintro e w3 ⟨S, v, h1, rfl, h2, h3⟩
        rw [HV2.out] at h1
        have hS : S = [] := by
          cases S with
          | nil => rfl
          | cons x S => have := ((h1.mem x).1 List.mem_cons_self).1; simp at this
        subst hS
        obtain ⟨a3, c3, rfl, -⟩ := h2
        replace H := Lib.hid (H.out.below h3)
        clear h1 h3 HL HV2
        go_wp2_with fail
        refine (alive_any _).mono ?_
        rintro e w4 ⟨rfl, hb4⟩
        have HB := Lib.hid (H.out.below hb4).bel
        clear hb4
        go_wp2_with fail
        go_ret
        exact ⟨rfl, HB.out⟩
end Go.Proofs.Ytogjgpiddjmpiaa.Depth

/- damperlaw33.DepthBest: the walk. -/
namespace Go.Proofs.Ytogjgpiddjmpiaa.Depth
open Go.RowKit Go.Proofs.Ytogjgpiddjmpiaa.Kit Go.Proofs.Ytogjgpiddjmpiaa.Blk Go.Proofs.Ytogjgpiddjmpiaa.Mp Go.Proofs.Ytogjgpiddjmpiaa.Msgs Go.Proofs.Ytogjgpiddjmpiaa.Octets Go.Proofs.Ytogjgpiddjmpiaa.Tape
attribute [local go_sem ↓] Go.wp_at_zero Go.wp_at_succ
set_option linter.unusedVariables false

theorem cut_one (S : List Lvl) : cutF 1 S = S.take 1 := by
  unfold cutF
  split
  · rfl
  · rename_i h
    rw [List.take_of_length_le (by omega)]
theorem lvrow_one {W : World} {B T : Nat} (x : Lvl) (h : Blk W B (Lvl.cells x) T) : LvRow W 0 (.slice (some ⟨B, 0, none⟩) 1 1) [x] :=
  ⟨_, _, rfl, by simp, by unfold maxLen; omega, fun i hi => by
    have hi0 : i = 0 := by simpa using hi
    subst hi0
    exact ⟨B, rfl, Nat.zero_le _, h.lt, fun j u hu => by rw [show 0 * 3 + j = j by omega]; exact h.cell j hu⟩⟩
theorem infoPL : (Try.prog.info? 90).map (fun i => (i.zero, i.size, i.bytes)) = some (some (.agg #[.int .i64 0, .int .i64 0, .int .i64 0]), 3, 24) := by kernel_rfl
/-- What is known behind all messages: both depths, and the document's best levels. -/
structure BS (w W : World) (D b N R : Nat) (L : List (Key × Rest)) (vx vy : Value) (X Y : List Lvl) (ba bb : Nat) (ca cb : Array Value) : Prop where
  ps : PS w W D b N R L L
  hx : LvRow W 0 vx X
  hy : LvRow W 0 vy Y
  a : Blk W ba ca 90
  b : Blk W bb cb 90
section
variable {w W W' : World} {D b N R : Nat} {L : List (Key × Rest)} {vx vy : Value} {X Y : List Lvl} {ba bb : Nat} {ca cb : Array Value}
theorem BS.below (h : BS w W D b N R L vx vy X Y ba bb ca cb) (hb : Below W.heap.size W W') : BS w W' D b N R L vx vy X Y ba bb ca cb :=
  ⟨h.ps.below hb, h.hx.below hb, h.hy.below hb, h.a.below hb h.a.lt, h.b.below hb h.b.lt⟩
theorem BS.drew (h : BS w W D b N R L vx vy X Y ba bb ca cb) : BS w W.drew D b N R L vx vy X Y ba bb ca cb := h.below (Below.refl _ _).drew
theorem BS.alloc (h : BS w W D b N R L vx vy X Y ba bb ca cb) (o : Obj) : BS w (W.alloc o) D b N R L vx vy X Y ba bb ca cb := h.below ((Below.refl _ _).alloc (Nat.le_refl _) _)
end
theorem lvrow_head {W : World} {N g n c : Nat} {x : Lvl} {X : List Lvl} (h : LvRow W N (.slice (some ⟨g, 0, none⟩) n c) (x :: X)) : W.cell? ⟨g, 0, none⟩ = some (.int .i64 x.price) := by
  obtain ⟨a', c', e, _, _, hh⟩ := h
  injection e with e1 e2 e3
  subst e1
  obtain ⟨g', f1, _, _, f4⟩ := hh 0 (by simp)
  injection f1 with f1
  injection f1 with f1
  subst f1
  have := f4 0 (.int .i64 x.price) rfl
  simpa using this
theorem lvrow_some {W : World} {N : Nat} {v : Value} {x : Lvl} (h : LvRow W N v [x]) : ∃ g c, v = .slice (some ⟨g, 0, none⟩) 1 c := by
  obtain ⟨a', c', e, _, _, hh⟩ := h
  obtain ⟨g', f1, _⟩ := hh 0 (by simp)
  subst f1
  exact ⟨g', c', e⟩
theorem lvrow_zero {W : World} {N : Nat} {v : Value} (h : LvRow W N v []) : ∃ a c, v = .slice a 0 c := by
  obtain ⟨a', c', e, _⟩ := h
  exact ⟨a', c', e⟩
theorem s_a {w W : World} {D b N R : Nat} {L : List (Key × Rest)} {vx vy : Value} {X Y : List Lvl} {ba bb : Nat} {xa : Lvl} {cb : Array Value} (h : BS w W D b N R L vx vy X Y ba bb (Lvl.cells xa) cb) :
    W.cell? ⟨ba, 0, none⟩ = some (.int .i64 xa.price) ∧ W.cell? ⟨ba, 1, none⟩ = some (.int .i64 xa.qty) ∧ W.cell? ⟨ba, 2, none⟩ = some (.int .i64 xa.ords) := ⟨h.a.cell 0 rfl, h.a.cell 1 rfl, h.a.cell 2 rfl⟩
theorem s_b {w W : World} {D b N R : Nat} {L : List (Key × Rest)} {vx vy : Value} {X Y : List Lvl} {ba bb : Nat} {xb : Lvl} {ca : Array Value} (h : BS w W D b N R L vx vy X Y ba bb ca (Lvl.cells xb)) :
    W.cell? ⟨bb, 0, none⟩ = some (.int .i64 xb.price) ∧ W.cell? ⟨bb, 1, none⟩ = some (.int .i64 xb.qty) ∧ W.cell? ⟨bb, 2, none⟩ = some (.int .i64 xb.ords) := ⟨h.b.cell 0 rfl, h.b.cell 1 rfl, h.b.cell 2 rfl⟩
theorem s_ab {w W : World} {D b N R : Nat} {L : List (Key × Rest)} {gx gy cx cy : Nat} {xa xb : Lvl} {ba bb : Nat} (h : BS w W D b N R L (.slice (some ⟨gx, 0, none⟩) 1 cx) (.slice (some ⟨gy, 0, none⟩) 1 cy) [xa] [xb] ba bb (Lvl.cells xa) (Lvl.cells xb)) :
    (W.cell? ⟨ba, 0, none⟩ = some (.int .i64 xa.price) ∧ W.cell? ⟨ba, 1, none⟩ = some (.int .i64 xa.qty) ∧ W.cell? ⟨ba, 2, none⟩ = some (.int .i64 xa.ords)) ∧ (W.cell? ⟨bb, 0, none⟩ = some (.int .i64 xb.price) ∧ W.cell? ⟨bb, 1, none⟩ = some (.int .i64 xb.qty) ∧ W.cell? ⟨bb, 2, none⟩ = some (.int .i64 xb.ords)) ∧ W.cell? ⟨gx, 0, none⟩ = some (.int .i64 xa.price) ∧ W.cell? ⟨gy, 0, none⟩ = some (.int .i64 xb.price) :=
  ⟨s_a h, s_b h, lvrow_head h.hx, lvrow_head h.hy⟩
set_option maxRecDepth 20000 in
set_option maxHeartbeats 8000000 in
theorem best_law (a : Option Addr) (cap : Nat) (l : List Msg) (sym : Int) (w : World) (hr : MsgRow w a l) (hl : l.length ≤ maxLen) :
    Calls Try.prog 10 #[.slice a l.length cap, .int .i64 sym] w fun e w' => e = .returned (.bool true) ∧ Below w.heap.size w w' := by
  have HS := Lib.hid (small_any a cap l w hl hr)
  have HR := Lib.hid hr
  cases hsm : smallB l with
  | false =>
    rw [hsm] at HS
    clear hr hl hsm
    go_enter Try.func10, Try.ntmps10
    go_wp2_with fail
    refine HS.out.mono ?_
    rintro e w1 ⟨rfl, rfl⟩
    go_wp2_with fail
    refine (alive_any _).mono ?_
    rintro e w2 ⟨rfl, hb⟩
    go_wp2_with fail
    go_ret
    exact ⟨rfl, hb⟩
  | true =>
    rw [hsm] at HS
    obtain ⟨hl1, hq⟩ := small_get hsm
    have HQS := Lib.hid hq
    clear hr hl hsm hq
    go_enter Try.func10, Try.ntmps10
    go_wp2_with fail
    refine HS.out.mono ?_
    rintro e w1 ⟨rfl, rfl⟩
    clear HS
    go_wp2_with fail
    refine (new_any w).mono ?_
    rintro e w1 ⟨rfl, hd, hb⟩
    have H := Lib.hid (ps_new hd hb)
    clear hd hb
    go_wp2_with fail
    generalize w1.alloc (.cells #[.slice none 0 0] 74) = w2 at H ⊢
    generalize w.heap.size + 1 = D at H ⊢
    generalize hN : w1.heap.size + 1 = N at H ⊢
    have HN := Lib.hid hN
    clear hN
    generalize w1.heap.size = R at H HN ⊢
    obtain ⟨b, hb⟩ : ∃ b, b = w.heap.size := ⟨_, rfl⟩
    rw [← hb] at H
    go_loopw [7] (fun i wr => ∃ k : Nat, k ≤ l.length ∧ i = .int .i64 k ∧ ∃ L, PS w wr D b N R L L ∧ OkL L ∧ L.length ≤ k) (fun i _ => l.length - (intOf i).toNat)
    case atStart => exact ⟨0, by omega, rfl, [], H.out, fun p hp => by simp at hp, by simp⟩
    case round =>
      clear H HN
      obtain ⟨k, hk, rfl, L, hps, hok, hlen⟩ := hrel
      have H := Lib.hid hps
      have HOK := Lib.hid hok
      clear hps hok
      by_cases hlt : k < l.length
      · obtain ⟨gb, off, rfl, hrow⟩ := row_all HR.out hlt
        have HROW := Lib.hid hrow
        have HQ := Lib.hid (HQS.out l[k] (List.getElem_mem hlt)).2
        clear hrow
        generalize l[k] = m at *
        have g0 : (0 : Int) ≤ (k : Int) := by omega
        have g1 : (k : Int) < (l.length : Int) := by omega
        have HE := Lib.hid (show OkL (putF L m).1 ∧ (putF L m).1.length ≤ k + 1 from ⟨ok_put HOK.out m HQ.out, by have := put_len L m; omega⟩)
        go_wp2_with (with_reducible (show wpList _ _ _ (⟨some 33, _, _, _, _, _⟩ :: _) _ _); refine stopAt ?_)
        unfold StopAt
        refine wpList_load_mid rfl 66 (.tmp 32) rfl gb (off + k * 9) rfl m.cells.toList _ (HROW.out _ H.out.bel) Try.underlying66 rfl (by kernel_rfl) ?_
        go_wp2_with fail
        refine (put_any D b L m _ H.out.ds HOK.out HQ.out).mono ?_
        rintro e w5 ⟨rfl, hd, hc⟩
        replace H := Lib.hid (H.out.put hd hc)
        clear hd hc
        go_wp2_with (with_reducible (show wpList _ _ _ (⟨some 39, _, _, _, _, _⟩ :: _) _ _); refine stopAt ?_)
        unfold StopAt
        refine wpList_load_mid rfl 66 (.tmp 38) rfl gb (off + k * 9) rfl m.cells.toList _ (HROW.out _ H.out.bel) Try.underlying66 rfl (by kernel_rfl) ?_
        go_wp2_with fail
        refine (rput_any N R L m _ H.out.rs H.out.le HOK.out (by omega) HQ.out).mono ?_
        rintro e w6 ⟨rfl, hd, hc⟩
        replace H := Lib.hid (H.out.rput hd hc)
        clear hd hc
        go_wp2_with fail
        go_roundw
        case rel => exact ⟨k + 1, by omega, by go_num, _, H.out, HE.out.1, HE.out.2⟩
        case measure => simp [intOf]; omega
      · have hlen2 : L.length ≤ 120 := by omega
        go_wp2_with fail
        refine (rlevels_any N R L sym 0 1 _ H.out.rs HOK.out (by omega) (.inl rfl)).mono ?_
        rintro e w3 ⟨vx, rfl, h2, h3⟩
        rw [cut_one] at h2
        replace H := Lib.hid (H.out.below h3)
        have HX := Lib.hid (h2.mono (Nat.zero_le _))
        clear h2 h3
        go_wp2_with fail
        refine (rlevels_any N R L sym 1 1 _ H.out.rs HOK.out (by omega) (.inr rfl)).mono ?_
        rintro e w4 ⟨vy, rfl, h2, h3⟩
        rw [cut_one] at h2
        replace H := Lib.hid (H.out.below h3)
        replace HX := Lib.hid (HX.out.below h3)
        have HY := Lib.hid (h2.mono (Nat.zero_le _))
        clear h2 h3
        go_wp2_with fail
        refine (best_any D b L sym 0 _ H.out.ds HOK.out (by omega)).mono ?_
        rintro e w5 ⟨S, h1, rfl, h3⟩
        obtain rfl := levels_same (.inl rfl) h1
        have p1 := restV_price HOK.out h1
        replace H := Lib.hid (H.out.below h3)
        replace HX := Lib.hid (HX.out.below h3)
        replace HY := Lib.hid (HY.out.below h3)
        clear h1 h3
        have HA := Lib.hid (Blk.new w5 (Lvl.cells (headF (ofL 0 (restV L sym 0)))) 90 w5.heap.size rfl)
        replace H := Lib.hid (H.out.below ((Below.refl _ _).alloc (Nat.le_refl _) (.cells (Lvl.cells (headF (ofL 0 (restV L sym 0)))) 90)))
        replace HX := Lib.hid (HX.out.below ((Below.refl _ _).alloc (Nat.le_refl _) (.cells (Lvl.cells (headF (ofL 0 (restV L sym 0)))) 90)))
        replace HY := Lib.hid (HY.out.below ((Below.refl _ _).alloc (Nat.le_refl _) (.cells (Lvl.cells (headF (ofL 0 (restV L sym 0)))) 90)))
        go_wp2_with fail
        refine (best_any D b L sym 1 _ H.out.ds HOK.out (by omega)).mono ?_
        rintro e w6 ⟨S, h1, rfl, h3⟩
        obtain rfl := levels_same (.inr rfl) h1
        have p2 := restV_price HOK.out h1
        replace H := Lib.hid (H.out.below h3)
        replace HX := Lib.hid (HX.out.below h3)
        replace HY := Lib.hid (HY.out.below h3)
        replace HA := Lib.hid (HA.out.below h3 HA.out.lt)
        clear h1 h3
        have HB := Lib.hid (Blk.new w6 (Lvl.cells (headF (ofL 1 (restV L sym 1)))) 90 w6.heap.size rfl)
        have HBS := Lib.hid (show BS w (w6.alloc (.cells (Lvl.cells (headF (ofL 1 (restV L sym 1)))) 90)) D b N R L vx vy _ _ w5.heap.size w6.heap.size _ _ from
          ⟨H.out.below ((Below.refl _ _).alloc (Nat.le_refl _) _), HX.out.below ((Below.refl _ _).alloc (Nat.le_refl _) _), HY.out.below ((Below.refl _ _).alloc (Nat.le_refl _) _), HA.out.old _, HB.out⟩)
        clear H HX HY HA HB
        have H := Lib.hid HBS.out
        clear HBS
        go_wp2_with fail
        refine (spread_any D b L sym _ H.out.ps.ds HOK.out (by omega)).mono ?_
        rintro e w7 ⟨S, T, h1, h2, rfl, h3⟩
        obtain rfl := levels_same (.inl rfl) h1
        obtain rfl := levels_same (.inr rfl) h2
        replace H := Lib.hid (H.out.below h3)
        clear h1 h2 h3
        generalize w5.heap.size = ba at H ⊢
        generalize w6.heap.size = bb at H ⊢
        generalize ofL 0 (restV L sym 0) = A at H p1 ⊢
        generalize ofL 1 (restV L sym 1) = B at H p2 ⊢
        cases A with
        | nil =>
          cases B with
          | nil =>
            obtain ⟨ax, cx, rfl⟩ := lvrow_zero H.out.hx
            obtain ⟨ay, cy, rfl⟩ := lvrow_zero H.out.hy
            go_upto_region 16 with fail
            refine wp_region_held_drew (S := (fun w' => True)) (by kernel_rfl) (trivial) (fun hHeld => ?_)
            replace H := Lib.hid H.out.drew
            generalize w7.drew = w8 at H hHeld ⊢
            refine wpAnyH_take (i := 0) (oi := ⟨some 85, _, _, _, _, _⟩) (v := ?_) rfl (by kernel_rfl) (by kernel_rfl) (by kernel_rfl) (fun _ _ _ h => h) (Or.inl ⟨by rfl, ?_⟩) (by assumption) ?_
            rotate_left
            · (intro w hSw; (try dsimp only at hSw); go_simp; (try with_reducible rfl))
            simp only [Act.put, List.setIfInBounds_toArray, List.set_cons_zero, List.set_cons_succ]
            refine wpAnyH_take (i := 1) (oi := ⟨some 86, _, _, _, _, _⟩) (v := ?_) rfl (by kernel_rfl) (by kernel_rfl) (by kernel_rfl) (fun _ _ _ h => h) (Or.inl ⟨by rfl, ?_⟩) (by assumption) ?_
            rotate_left
            · (intro w hSw; (try dsimp only at hSw); go_simp; (try with_reducible rfl))
            simp only [Act.put, List.setIfInBounds_toArray, List.set_cons_zero, List.set_cons_succ]
            refine wpAnyH_take (i := 2) (oi := ⟨some 87, _, _, _, _, _⟩) (v := undef) rfl (by kernel_rfl) (by kernel_rfl) (by kernel_rfl) (fun _ _ _ h => h) (Or.inr ⟨by rfl, rfl⟩) (by assumption) ?_
            simp only [Act.put, List.setIfInBounds_toArray, List.set_cons_zero, List.set_cons_succ]
            refine wpAnyH_take (i := 3) (oi := ⟨some 88, _, _, _, _, _⟩) (v := undef) rfl (by kernel_rfl) (by kernel_rfl) (by kernel_rfl) (fun _ _ _ h => h) (Or.inr ⟨by rfl, rfl⟩) (by assumption) ?_
            simp only [Act.put, List.setIfInBounds_toArray, List.set_cons_zero, List.set_cons_succ]
            refine wpAnyH_take (i := 4) (oi := ⟨some 89, _, _, _, _, _⟩) (v := undef) rfl (by kernel_rfl) (by kernel_rfl) (by kernel_rfl) (fun _ _ _ h => h) (Or.inr ⟨by rfl, rfl⟩) (by assumption) ?_
            simp only [Act.put, List.setIfInBounds_toArray, List.set_cons_zero, List.set_cons_succ]
            refine wpAnyH_take (i := 5) (oi := ⟨some 90, _, _, _, _, _⟩) (v := undef) rfl (by kernel_rfl) (by kernel_rfl) (by kernel_rfl) (fun _ _ _ h => h) (Or.inr ⟨by rfl, rfl⟩) (by assumption) ?_
            simp only [Act.put, List.setIfInBounds_toArray, List.set_cons_zero, List.set_cons_succ]
            refine wpAnyH_take (i := 6) (oi := ⟨some 91, _, _, _, _, _⟩) (v := undef) rfl (by kernel_rfl) (by kernel_rfl) (by kernel_rfl) (fun _ _ _ h => h) (Or.inr ⟨by rfl, rfl⟩) (by assumption) ?_
            simp only [Act.put, List.setIfInBounds_toArray, List.set_cons_zero, List.set_cons_succ]
            refine wpAnyH_take (i := 7) (oi := ⟨some 92, _, _, _, _, _⟩) (v := undef) rfl (by kernel_rfl) (by kernel_rfl) (by kernel_rfl) (fun _ _ _ h => h) (Or.inr ⟨by rfl, rfl⟩) (by assumption) ?_
            simp only [Act.put, List.setIfInBounds_toArray, List.set_cons_zero, List.set_cons_succ]
            refine wpAnyH_take (i := 8) (oi := ⟨some 93, _, _, _, _, _⟩) (v := ?_) rfl (by kernel_rfl) (by kernel_rfl) (by kernel_rfl) (fun _ _ _ h => h) (Or.inl ⟨by rfl, ?_⟩) (by assumption) ?_
            rotate_left
            · (intro w hSw; (try dsimp only at hSw); go_simp; (try with_reducible rfl))
            simp only [Act.put, List.setIfInBounds_toArray, List.set_cons_zero, List.set_cons_succ]
            refine wpAnyH_take (i := 9) (oi := ⟨some 94, _, _, _, _, _⟩) (v := ?_) rfl (by kernel_rfl) (by kernel_rfl) (by kernel_rfl) (fun _ _ _ h => h) (Or.inl ⟨by rfl, ?_⟩) (by assumption) ?_
            rotate_left
            · (intro w hSw; (try dsimp only at hSw); go_simp; (try with_reducible rfl))
            simp only [Act.put, List.setIfInBounds_toArray, List.set_cons_zero, List.set_cons_succ]
            refine wpAnyH_take (i := 10) (oi := ⟨some 95, _, _, _, _, _⟩) (v := ?_) rfl (by kernel_rfl) (by kernel_rfl) (by kernel_rfl) (fun _ _ _ h => h) (Or.inl ⟨by rfl, ?_⟩) (by assumption) ?_
            rotate_left
            · (intro w hSw; (try dsimp only at hSw); go_simp; (try with_reducible rfl))
            simp only [Act.put, List.setIfInBounds_toArray, List.set_cons_zero, List.set_cons_succ]
            refine wpAnyH_take (i := 11) (oi := ⟨some 96, _, _, _, _, _⟩) (v := ?_) rfl (by kernel_rfl) (by kernel_rfl) (by kernel_rfl) (fun _ _ _ h => h) (Or.inl ⟨by rfl, ?_⟩) (by assumption) ?_
            rotate_left
            · (intro w hSw; (try dsimp only at hSw); go_simp; (try with_reducible rfl))
            simp only [Act.put, List.setIfInBounds_toArray, List.set_cons_zero, List.set_cons_succ]
            refine wpAnyH_take (i := 12) (oi := ⟨some 97, _, _, _, _, _⟩) (v := undef) rfl (by kernel_rfl) (by kernel_rfl) (by kernel_rfl) (fun _ _ _ h => h) (Or.inr ⟨by rfl, rfl⟩) (by assumption) ?_
            simp only [Act.put, List.setIfInBounds_toArray, List.set_cons_zero, List.set_cons_succ]
            refine wpAnyH_take (i := 13) (oi := ⟨some 98, _, _, _, _, _⟩) (v := undef) rfl (by kernel_rfl) (by kernel_rfl) (by kernel_rfl) (fun _ _ _ h => h) (Or.inr ⟨by rfl, rfl⟩) (by assumption) ?_
            simp only [Act.put, List.setIfInBounds_toArray, List.set_cons_zero, List.set_cons_succ]
            refine wpAnyH_take (i := 14) (oi := ⟨some 99, _, _, _, _, _⟩) (v := undef) rfl (by kernel_rfl) (by kernel_rfl) (by kernel_rfl) (fun _ _ _ h => h) (Or.inr ⟨by rfl, rfl⟩) (by assumption) ?_
            simp only [Act.put, List.setIfInBounds_toArray, List.set_cons_zero, List.set_cons_succ]
            refine wpAnyH_take (i := 15) (oi := ⟨some 100, _, _, _, _, _⟩) (v := undef) rfl (by kernel_rfl) (by kernel_rfl) (by kernel_rfl) (fun _ _ _ h => h) (Or.inr ⟨by rfl, rfl⟩) (by assumption) ?_
            simp only [Act.put, List.setIfInBounds_toArray, List.set_cons_zero, List.set_cons_succ]
            refine wpAnyH_take (i := 16) (oi := ⟨some 101, _, _, _, _, _⟩) (v := undef) rfl (by kernel_rfl) (by kernel_rfl) (by kernel_rfl) (fun _ _ _ h => h) (Or.inr ⟨by rfl, rfl⟩) (by assumption) ?_
            simp only [Act.put, List.setIfInBounds_toArray, List.set_cons_zero, List.set_cons_succ]
            refine wpAnyH_take (i := 17) (oi := ⟨some 102, _, _, _, _, _⟩) (v := undef) rfl (by kernel_rfl) (by kernel_rfl) (by kernel_rfl) (fun _ _ _ h => h) (Or.inr ⟨by rfl, rfl⟩) (by assumption) ?_
            simp only [Act.put, List.setIfInBounds_toArray, List.set_cons_zero, List.set_cons_succ]
            refine wpAnyH_take (i := 18) (oi := ⟨some 103, _, _, _, _, _⟩) (v := ?_) rfl (by kernel_rfl) (by kernel_rfl) (by kernel_rfl) (fun _ _ _ h => h) (Or.inl ⟨by rfl, ?_⟩) (by assumption) ?_
            rotate_left
            · (intro w hSw; (try dsimp only at hSw); go_simp; (try with_reducible rfl))
            simp only [Act.put, List.setIfInBounds_toArray, List.set_cons_zero, List.set_cons_succ]
            refine wpAnyH_take (i := 19) (oi := ⟨some 104, _, _, _, _, _⟩) (v := ?_) rfl (by kernel_rfl) (by kernel_rfl) (by kernel_rfl) (fun _ _ _ h => h) (Or.inl ⟨by rfl, ?_⟩) (by assumption) ?_
            rotate_left
            · (intro w hSw; (try dsimp only at hSw); go_simp; (try with_reducible rfl))
            simp only [Act.put, List.setIfInBounds_toArray, List.set_cons_zero, List.set_cons_succ]
            refine wpAnyH_take (i := 20) (oi := ⟨some 105, _, _, _, _, _⟩) (v := ?_) rfl (by kernel_rfl) (by kernel_rfl) (by kernel_rfl) (fun _ _ _ h => h) (Or.inl ⟨by rfl, ?_⟩) (by assumption) ?_
            rotate_left
            · (intro w hSw; (try dsimp only at hSw); go_simp; (try with_reducible rfl))
            simp only [Act.put, List.setIfInBounds_toArray, List.set_cons_zero, List.set_cons_succ]
            refine wpAnyH_take (i := 21) (oi := ⟨some 106, _, _, _, _, _⟩) (v := ?_) rfl (by kernel_rfl) (by kernel_rfl) (by kernel_rfl) (fun _ _ _ h => h) (Or.inl ⟨by rfl, ?_⟩) (by assumption) ?_
            rotate_left
            · (intro w hSw; (try dsimp only at hSw); go_simp; (try with_reducible rfl))
            simp only [Act.put, List.setIfInBounds_toArray, List.set_cons_zero, List.set_cons_succ]
            refine wpAnyH_take (i := 22) (oi := ⟨some 107, _, _, _, _, _⟩) (v := ?_) rfl (by kernel_rfl) (by kernel_rfl) (by kernel_rfl) (fun _ _ _ h => h) (Or.inl ⟨by rfl, ?_⟩) (by assumption) ?_
            rotate_left
            · (intro w hSw; (try dsimp only at hSw); go_simp; (try with_reducible rfl))
            simp only [Act.put, List.setIfInBounds_toArray, List.set_cons_zero, List.set_cons_succ]
            refine wpAnyH_take (i := 23) (oi := ⟨some 108, _, _, _, _, _⟩) (v := undef) rfl (by kernel_rfl) (by kernel_rfl) (by kernel_rfl) (fun _ _ _ h => h) (Or.inr ⟨by rfl, rfl⟩) (by assumption) ?_
            simp only [Act.put, List.setIfInBounds_toArray, List.set_cons_zero, List.set_cons_succ]
            refine wpAnyH_take (i := 24) (oi := ⟨some 109, _, _, _, _, _⟩) (v := undef) rfl (by kernel_rfl) (by kernel_rfl) (by kernel_rfl) (fun _ _ _ h => h) (Or.inr ⟨by rfl, rfl⟩) (by assumption) ?_
            simp only [Act.put, List.setIfInBounds_toArray, List.set_cons_zero, List.set_cons_succ]
            refine wpAnyH_take (i := 25) (oi := ⟨some 110, _, _, _, _, _⟩) (v := undef) rfl (by kernel_rfl) (by kernel_rfl) (by kernel_rfl) (fun _ _ _ h => h) (Or.inr ⟨by rfl, rfl⟩) (by assumption) ?_
            simp only [Act.put, List.setIfInBounds_toArray, List.set_cons_zero, List.set_cons_succ]
            refine wpAnyH_take (i := 26) (oi := ⟨some 111, _, _, _, _, _⟩) (v := undef) rfl (by kernel_rfl) (by kernel_rfl) (by kernel_rfl) (fun _ _ _ h => h) (Or.inr ⟨by rfl, rfl⟩) (by assumption) ?_
            simp only [Act.put, List.setIfInBounds_toArray, List.set_cons_zero, List.set_cons_succ]
            refine wpAnyH_take (i := 27) (oi := ⟨some 112, _, _, _, _, _⟩) (v := undef) rfl (by kernel_rfl) (by kernel_rfl) (by kernel_rfl) (fun _ _ _ h => h) (Or.inr ⟨by rfl, rfl⟩) (by assumption) ?_
            simp only [Act.put, List.setIfInBounds_toArray, List.set_cons_zero, List.set_cons_succ]
            refine wpAnyH_take (i := 28) (oi := ⟨some 113, _, _, _, _, _⟩) (v := undef) rfl (by kernel_rfl) (by kernel_rfl) (by kernel_rfl) (fun _ _ _ h => h) (Or.inr ⟨by rfl, rfl⟩) (by assumption) ?_
            simp only [Act.put, List.setIfInBounds_toArray, List.set_cons_zero, List.set_cons_succ]
            refine wpAnyH_take (i := 29) (oi := ⟨some 114, _, _, _, _, _⟩) (v := undef) rfl (by kernel_rfl) (by kernel_rfl) (by kernel_rfl) (fun _ _ _ h => h) (Or.inr ⟨by rfl, rfl⟩) (by assumption) ?_
            simp only [Act.put, List.setIfInBounds_toArray, List.set_cons_zero, List.set_cons_succ]
            refine wpAnyH_take (i := 30) (oi := ⟨some 115, _, _, _, _, _⟩) (v := undef) rfl (by kernel_rfl) (by kernel_rfl) (by kernel_rfl) (fun _ _ _ h => h) (Or.inr ⟨by rfl, rfl⟩) (by assumption) ?_
            simp only [Act.put, List.setIfInBounds_toArray, List.set_cons_zero, List.set_cons_succ]
            refine wpAnyH_take (i := 31) (oi := ⟨some 116, _, _, _, _, _⟩) (v := undef) rfl (by kernel_rfl) (by kernel_rfl) (by kernel_rfl) (fun _ _ _ h => h) (Or.inr ⟨by rfl, rfl⟩) (by assumption) ?_
            simp only [Act.put, List.setIfInBounds_toArray, List.set_cons_zero, List.set_cons_succ]
            refine wpAnyH_take (i := 32) (oi := ⟨some 117, _, _, _, _, _⟩) (v := undef) rfl (by kernel_rfl) (by kernel_rfl) (by kernel_rfl) (fun _ _ _ h => h) (Or.inr ⟨by rfl, rfl⟩) (by assumption) ?_
            simp only [Act.put, List.setIfInBounds_toArray, List.set_cons_zero, List.set_cons_succ]
            refine wpAnyH_take (i := 33) (oi := ⟨some 118, _, _, _, _, _⟩) (v := undef) rfl (by kernel_rfl) (by kernel_rfl) (by kernel_rfl) (fun _ _ _ h => h) (Or.inr ⟨by rfl, rfl⟩) (by assumption) ?_
            simp only [Act.put, List.setIfInBounds_toArray, List.set_cons_zero, List.set_cons_succ]
            refine wpAnyH_take (i := 34) (oi := ⟨some 119, _, _, _, _, _⟩) (v := ?_) rfl (by kernel_rfl) (by kernel_rfl) (by kernel_rfl) (fun _ _ _ h => h) (Or.inl ⟨by rfl, ?_⟩) (by assumption) ?_
            rotate_left
            · (intro w hSw; (try dsimp only at hSw); go_simp; (try with_reducible rfl))
            simp only [Act.put, List.setIfInBounds_toArray, List.set_cons_zero, List.set_cons_succ]
            refine wpAnyH_take (i := 35) (oi := ⟨some 120, _, _, _, _, _⟩) (v := ?_) rfl (by kernel_rfl) (by kernel_rfl) (by kernel_rfl) (fun _ _ _ h => h) (Or.inl ⟨by rfl, ?_⟩) (by assumption) ?_
            rotate_left
            · (intro w hSw; (try dsimp only at hSw); go_simp; (try with_reducible rfl))
            simp only [Act.put, List.setIfInBounds_toArray, List.set_cons_zero, List.set_cons_succ]
            refine wpAnyH_done (by kernel_rfl) ?_ _
            go_wp2_with fail
            refine (alive_any _).mono ?_
            rintro e w9 ⟨rfl, hb9⟩
            have HB := Lib.hid (H.out.below hb9).ps.bel
            clear hb9
            go_wp2_with fail
            go_ret
            exact ⟨rfl, HB.out⟩
          | cons xb B =>
            obtain ⟨ax, cx, rfl⟩ := lvrow_zero H.out.hx
            obtain ⟨gy, cy, rfl⟩ := lvrow_some H.out.hy
            have HCS := Lib.hid (fun W (h : BS w W D b N R L (.slice ax 0 cx) (.slice (some ⟨gy, 0, none⟩) 1 cy) [] [xb] ba bb (Lvl.cells (headF [])) (Lvl.cells xb)) => s_b h)
            go_upto_region 16 with fail
            refine wp_region_held_drew (S := (fun w' => w'.cell? ⟨bb, 0, none⟩ = some (.int .i64 xb.price) ∧ w'.cell? ⟨bb, 1, none⟩ = some (.int .i64 xb.qty) ∧ w'.cell? ⟨bb, 2, none⟩ = some (.int .i64 xb.ords))) (by kernel_rfl) (HCS.out _ H.out.drew) (fun hHeld => ?_)
            replace H := Lib.hid H.out.drew
            generalize w7.drew = w8 at H hHeld ⊢
            refine wpAnyH_take (i := 0) (oi := ⟨some 85, _, _, _, _, _⟩) (v := ?_) rfl (by kernel_rfl) (by kernel_rfl) (by kernel_rfl) (fun _ _ _ h => h) (Or.inl ⟨by rfl, ?_⟩) (by assumption) ?_
            rotate_left
            · (intro w hSw; (try dsimp only at hSw); go_simp; (try with_reducible rfl))
            simp only [Act.put, List.setIfInBounds_toArray, List.set_cons_zero, List.set_cons_succ]
            refine wpAnyH_take (i := 1) (oi := ⟨some 86, _, _, _, _, _⟩) (v := ?_) rfl (by kernel_rfl) (by kernel_rfl) (by kernel_rfl) (fun _ _ _ h => h) (Or.inl ⟨by rfl, ?_⟩) (by assumption) ?_
            rotate_left
            · (intro w hSw; (try dsimp only at hSw); go_simp; (try with_reducible rfl))
            simp only [Act.put, List.setIfInBounds_toArray, List.set_cons_zero, List.set_cons_succ]
            refine wpAnyH_take (i := 2) (oi := ⟨some 87, _, _, _, _, _⟩) (v := undef) rfl (by kernel_rfl) (by kernel_rfl) (by kernel_rfl) (fun _ _ _ h => h) (Or.inr ⟨by rfl, rfl⟩) (by assumption) ?_
            simp only [Act.put, List.setIfInBounds_toArray, List.set_cons_zero, List.set_cons_succ]
            refine wpAnyH_take (i := 3) (oi := ⟨some 88, _, _, _, _, _⟩) (v := undef) rfl (by kernel_rfl) (by kernel_rfl) (by kernel_rfl) (fun _ _ _ h => h) (Or.inr ⟨by rfl, rfl⟩) (by assumption) ?_
            simp only [Act.put, List.setIfInBounds_toArray, List.set_cons_zero, List.set_cons_succ]
            refine wpAnyH_take (i := 4) (oi := ⟨some 89, _, _, _, _, _⟩) (v := undef) rfl (by kernel_rfl) (by kernel_rfl) (by kernel_rfl) (fun _ _ _ h => h) (Or.inr ⟨by rfl, rfl⟩) (by assumption) ?_
            simp only [Act.put, List.setIfInBounds_toArray, List.set_cons_zero, List.set_cons_succ]
            refine wpAnyH_take (i := 5) (oi := ⟨some 90, _, _, _, _, _⟩) (v := undef) rfl (by kernel_rfl) (by kernel_rfl) (by kernel_rfl) (fun _ _ _ h => h) (Or.inr ⟨by rfl, rfl⟩) (by assumption) ?_
            simp only [Act.put, List.setIfInBounds_toArray, List.set_cons_zero, List.set_cons_succ]
            refine wpAnyH_take (i := 6) (oi := ⟨some 91, _, _, _, _, _⟩) (v := undef) rfl (by kernel_rfl) (by kernel_rfl) (by kernel_rfl) (fun _ _ _ h => h) (Or.inr ⟨by rfl, rfl⟩) (by assumption) ?_
            simp only [Act.put, List.setIfInBounds_toArray, List.set_cons_zero, List.set_cons_succ]
            refine wpAnyH_take (i := 7) (oi := ⟨some 92, _, _, _, _, _⟩) (v := undef) rfl (by kernel_rfl) (by kernel_rfl) (by kernel_rfl) (fun _ _ _ h => h) (Or.inr ⟨by rfl, rfl⟩) (by assumption) ?_
            simp only [Act.put, List.setIfInBounds_toArray, List.set_cons_zero, List.set_cons_succ]
            refine wpAnyH_take (i := 8) (oi := ⟨some 93, _, _, _, _, _⟩) (v := ?_) rfl (by kernel_rfl) (by kernel_rfl) (by kernel_rfl) (fun _ _ _ h => h) (Or.inl ⟨by rfl, ?_⟩) (by assumption) ?_
            rotate_left
            · (intro w hSw; (try dsimp only at hSw); go_simp; (try with_reducible rfl))
            simp only [Act.put, List.setIfInBounds_toArray, List.set_cons_zero, List.set_cons_succ]
            refine wpAnyH_take (i := 9) (oi := ⟨some 94, _, _, _, _, _⟩) (v := ?_) rfl (by kernel_rfl) (by kernel_rfl) (by kernel_rfl) (fun _ _ _ h => h) (Or.inl ⟨by rfl, ?_⟩) (by assumption) ?_
            rotate_left
            · (intro w hSw; (try dsimp only at hSw); go_simp; (try with_reducible rfl))
            simp only [Act.put, List.setIfInBounds_toArray, List.set_cons_zero, List.set_cons_succ]
            refine wpAnyH_take (i := 10) (oi := ⟨some 95, _, _, _, _, _⟩) (v := ?_) rfl (by kernel_rfl) (by kernel_rfl) (by kernel_rfl) (fun _ _ _ h => h) (Or.inl ⟨by rfl, ?_⟩) (by assumption) ?_
            rotate_left
            · (intro w hSw; (try dsimp only at hSw); go_simp; (try with_reducible rfl))
            simp only [Act.put, List.setIfInBounds_toArray, List.set_cons_zero, List.set_cons_succ]
            refine wpAnyH_take (i := 11) (oi := ⟨some 96, _, _, _, _, _⟩) (v := ?_) rfl (by kernel_rfl) (by kernel_rfl) (by kernel_rfl) (fun _ _ _ h => h) (Or.inl ⟨by rfl, ?_⟩) (by assumption) ?_
            rotate_left
            · (intro w hSw; (try dsimp only at hSw); go_simp; (try with_reducible rfl))
            simp only [Act.put, List.setIfInBounds_toArray, List.set_cons_zero, List.set_cons_succ]
            refine wpAnyH_take (i := 12) (oi := ⟨some 97, _, _, _, _, _⟩) (v := ?_) rfl (by kernel_rfl) (by kernel_rfl) (by kernel_rfl) (fun _ _ _ h => h) (Or.inl ⟨by rfl, ?_⟩) (by assumption) ?_
            rotate_left
            · (intro w hSw; (try dsimp only at hSw); go_simp; (try with_reducible rfl))
            simp only [Act.put, List.setIfInBounds_toArray, List.set_cons_zero, List.set_cons_succ]
            refine wpAnyH_take (i := 15) (oi := ⟨some 100, _, _, _, _, _⟩) (v := ?_) rfl (by kernel_rfl) (by kernel_rfl) (by kernel_rfl) (fun _ _ _ h => h) (Or.inl ⟨by rfl, ?_⟩) (by assumption) ?_
            rotate_left
            · (intro w hSw; (try dsimp only at hSw); go_simp; (try with_reducible rfl))
            simp only [Act.put, List.setIfInBounds_toArray, List.set_cons_zero, List.set_cons_succ]
            refine wpAnyH_ready (rs := [13]) (by kernel_rfl) (by simp) ?_
            refine AllReadyH.cons (o := ⟨some 98, _, _, _, _, _⟩) rfl (fun KK hK => ?_) AllReadyH.nil
            go_simp
            change KK _ (w8.alloc (.cells (Lvl.cells xb) 90))
            have HNB := Lib.hid (lvrow_one xb (Blk.new w8 (Lvl.cells xb) 90 w8.heap.size rfl))
            replace H := Lib.hid (H.out.alloc (.cells (Lvl.cells xb) 90))
            generalize w8.alloc (.cells (Lvl.cells xb) 90) = WX1 at HNB H ⊢
            generalize w8.heap.size = nb2 at HNB ⊢
            refine hK.out _ _ (HCS.out _ H.out) (fun hHeld => ?_)
            clear hK; try clear KK
            try simp only [Act.put, List.setIfInBounds_toArray, List.set_cons_zero, List.set_cons_succ]
            refine wpAnyH_ready (rs := [14]) (by kernel_rfl) (by simp) ?_
            refine AllReadyH.cons (o := ⟨some 99, _, _, _, _, _⟩) rfl (fun KK hK => ?_) AllReadyH.nil
            go_simp
            refine (back_any _ _ _ _ HNB.out (by simp)).mono ?_
            rintro e WX2 ⟨v4, rfl, h2, h3⟩
            replace H := Lib.hid (H.out.below h3)
            clear HNB
            have HNB := Lib.hid h2
            clear h2 h3
            go_wp2_with fail
            refine hK.out _ _ (HCS.out _ H.out) (fun hHeld => ?_)
            clear hK; try clear KK
            try simp only [Act.put, List.setIfInBounds_toArray, List.set_cons_zero, List.set_cons_succ]
            refine wpAnyH_ready (rs := [16]) (by kernel_rfl) (by simp) ?_
            refine AllReadyH.cons (o := ⟨some 101, _, _, _, _, _⟩) rfl (fun KK hK => ?_) AllReadyH.nil
            go_simp
            refine (rsame_any _ _ v4 _ _ _ HNB.out H.out.hy).mono ?_
            rintro e WX3 ⟨rfl, h3⟩
            replace H := Lib.hid (H.out.below h3)
            clear h3 HNB
            go_wp2_with fail
            refine hK.out _ _ (HCS.out _ H.out) (fun hHeld => ?_)
            clear hK; try clear KK
            try simp only [Act.put, List.setIfInBounds_toArray, List.set_cons_zero, List.set_cons_succ]
            refine wpAnyH_take (i := 17) (oi := ⟨some 102, _, _, _, _, _⟩) (v := ?_) rfl (by kernel_rfl) (by kernel_rfl) (by kernel_rfl) (fun _ _ _ h => h) (Or.inl ⟨by rfl, ?_⟩) (by assumption) ?_
            rotate_left
            · (intro w hSw; (try dsimp only at hSw); go_simp; (try with_reducible rfl))
            simp only [Act.put, List.setIfInBounds_toArray, List.set_cons_zero, List.set_cons_succ]
            refine wpAnyH_take (i := 18) (oi := ⟨some 103, _, _, _, _, _⟩) (v := ?_) rfl (by kernel_rfl) (by kernel_rfl) (by kernel_rfl) (fun _ _ _ h => h) (Or.inl ⟨by rfl, ?_⟩) (by assumption) ?_
            rotate_left
            · (intro w hSw; (try dsimp only at hSw); go_simp; (try with_reducible rfl))
            simp only [Act.put, List.setIfInBounds_toArray, List.set_cons_zero, List.set_cons_succ]
            refine wpAnyH_take (i := 19) (oi := ⟨some 104, _, _, _, _, _⟩) (v := ?_) rfl (by kernel_rfl) (by kernel_rfl) (by kernel_rfl) (fun _ _ _ h => h) (Or.inl ⟨by rfl, ?_⟩) (by assumption) ?_
            rotate_left
            · (intro w hSw; (try dsimp only at hSw); go_simp; (try with_reducible rfl))
            simp only [Act.put, List.setIfInBounds_toArray, List.set_cons_zero, List.set_cons_succ]
            refine wpAnyH_take (i := 20) (oi := ⟨some 105, _, _, _, _, _⟩) (v := ?_) rfl (by kernel_rfl) (by kernel_rfl) (by kernel_rfl) (fun _ _ _ h => h) (Or.inl ⟨by rfl, ?_⟩) (by assumption) ?_
            rotate_left
            · (intro w hSw; (try dsimp only at hSw); go_simp; (try with_reducible rfl))
            simp only [Act.put, List.setIfInBounds_toArray, List.set_cons_zero, List.set_cons_succ]
            refine wpAnyH_take (i := 21) (oi := ⟨some 106, _, _, _, _, _⟩) (v := ?_) rfl (by kernel_rfl) (by kernel_rfl) (by kernel_rfl) (fun _ _ _ h => h) (Or.inl ⟨by rfl, ?_⟩) (by assumption) ?_
            rotate_left
            · (intro w hSw; (try dsimp only at hSw); go_simp; (try with_reducible rfl))
            simp only [Act.put, List.setIfInBounds_toArray, List.set_cons_zero, List.set_cons_succ]
            refine wpAnyH_take (i := 22) (oi := ⟨some 107, _, _, _, _, _⟩) (v := ?_) rfl (by kernel_rfl) (by kernel_rfl) (by kernel_rfl) (fun _ _ _ h => h) (Or.inl ⟨by rfl, ?_⟩) (by assumption) ?_
            rotate_left
            · (intro w hSw; (try dsimp only at hSw); go_simp; (try with_reducible rfl))
            simp only [Act.put, List.setIfInBounds_toArray, List.set_cons_zero, List.set_cons_succ]
            refine wpAnyH_take (i := 23) (oi := ⟨some 108, _, _, _, _, _⟩) (v := undef) rfl (by kernel_rfl) (by kernel_rfl) (by kernel_rfl) (fun _ _ _ h => h) (Or.inr ⟨by rfl, rfl⟩) (by assumption) ?_
            simp only [Act.put, List.setIfInBounds_toArray, List.set_cons_zero, List.set_cons_succ]
            refine wpAnyH_take (i := 24) (oi := ⟨some 109, _, _, _, _, _⟩) (v := undef) rfl (by kernel_rfl) (by kernel_rfl) (by kernel_rfl) (fun _ _ _ h => h) (Or.inr ⟨by rfl, rfl⟩) (by assumption) ?_
            simp only [Act.put, List.setIfInBounds_toArray, List.set_cons_zero, List.set_cons_succ]
            refine wpAnyH_take (i := 25) (oi := ⟨some 110, _, _, _, _, _⟩) (v := undef) rfl (by kernel_rfl) (by kernel_rfl) (by kernel_rfl) (fun _ _ _ h => h) (Or.inr ⟨by rfl, rfl⟩) (by assumption) ?_
            simp only [Act.put, List.setIfInBounds_toArray, List.set_cons_zero, List.set_cons_succ]
            refine wpAnyH_take (i := 26) (oi := ⟨some 111, _, _, _, _, _⟩) (v := undef) rfl (by kernel_rfl) (by kernel_rfl) (by kernel_rfl) (fun _ _ _ h => h) (Or.inr ⟨by rfl, rfl⟩) (by assumption) ?_
            simp only [Act.put, List.setIfInBounds_toArray, List.set_cons_zero, List.set_cons_succ]
            refine wpAnyH_take (i := 27) (oi := ⟨some 112, _, _, _, _, _⟩) (v := undef) rfl (by kernel_rfl) (by kernel_rfl) (by kernel_rfl) (fun _ _ _ h => h) (Or.inr ⟨by rfl, rfl⟩) (by assumption) ?_
            simp only [Act.put, List.setIfInBounds_toArray, List.set_cons_zero, List.set_cons_succ]
            refine wpAnyH_take (i := 28) (oi := ⟨some 113, _, _, _, _, _⟩) (v := undef) rfl (by kernel_rfl) (by kernel_rfl) (by kernel_rfl) (fun _ _ _ h => h) (Or.inr ⟨by rfl, rfl⟩) (by assumption) ?_
            simp only [Act.put, List.setIfInBounds_toArray, List.set_cons_zero, List.set_cons_succ]
            refine wpAnyH_take (i := 29) (oi := ⟨some 114, _, _, _, _, _⟩) (v := undef) rfl (by kernel_rfl) (by kernel_rfl) (by kernel_rfl) (fun _ _ _ h => h) (Or.inr ⟨by rfl, rfl⟩) (by assumption) ?_
            simp only [Act.put, List.setIfInBounds_toArray, List.set_cons_zero, List.set_cons_succ]
            refine wpAnyH_take (i := 30) (oi := ⟨some 115, _, _, _, _, _⟩) (v := undef) rfl (by kernel_rfl) (by kernel_rfl) (by kernel_rfl) (fun _ _ _ h => h) (Or.inr ⟨by rfl, rfl⟩) (by assumption) ?_
            simp only [Act.put, List.setIfInBounds_toArray, List.set_cons_zero, List.set_cons_succ]
            refine wpAnyH_take (i := 31) (oi := ⟨some 116, _, _, _, _, _⟩) (v := undef) rfl (by kernel_rfl) (by kernel_rfl) (by kernel_rfl) (fun _ _ _ h => h) (Or.inr ⟨by rfl, rfl⟩) (by assumption) ?_
            simp only [Act.put, List.setIfInBounds_toArray, List.set_cons_zero, List.set_cons_succ]
            refine wpAnyH_take (i := 32) (oi := ⟨some 117, _, _, _, _, _⟩) (v := undef) rfl (by kernel_rfl) (by kernel_rfl) (by kernel_rfl) (fun _ _ _ h => h) (Or.inr ⟨by rfl, rfl⟩) (by assumption) ?_
            simp only [Act.put, List.setIfInBounds_toArray, List.set_cons_zero, List.set_cons_succ]
            refine wpAnyH_take (i := 33) (oi := ⟨some 118, _, _, _, _, _⟩) (v := undef) rfl (by kernel_rfl) (by kernel_rfl) (by kernel_rfl) (fun _ _ _ h => h) (Or.inr ⟨by rfl, rfl⟩) (by assumption) ?_
            simp only [Act.put, List.setIfInBounds_toArray, List.set_cons_zero, List.set_cons_succ]
            refine wpAnyH_take (i := 34) (oi := ⟨some 119, _, _, _, _, _⟩) (v := ?_) rfl (by kernel_rfl) (by kernel_rfl) (by kernel_rfl) (fun _ _ _ h => h) (Or.inl ⟨by rfl, ?_⟩) (by assumption) ?_
            rotate_left
            · (intro w hSw; (try dsimp only at hSw); go_simp; (try with_reducible rfl))
            simp only [Act.put, List.setIfInBounds_toArray, List.set_cons_zero, List.set_cons_succ]
            refine wpAnyH_take (i := 35) (oi := ⟨some 120, _, _, _, _, _⟩) (v := ?_) rfl (by kernel_rfl) (by kernel_rfl) (by kernel_rfl) (fun _ _ _ h => h) (Or.inl ⟨by rfl, ?_⟩) (by assumption) ?_
            rotate_left
            · (intro w hSw; (try dsimp only at hSw); go_simp; (try with_reducible rfl))
            simp only [Act.put, List.setIfInBounds_toArray, List.set_cons_zero, List.set_cons_succ]
            refine wpAnyH_done (by kernel_rfl) ?_ _
            go_wp2_with fail
            refine (alive_any _).mono ?_
            rintro e w9 ⟨rfl, hb9⟩
            have HB := Lib.hid (H.out.below hb9).ps.bel
            clear hb9
            go_wp2_with fail
            go_ret
            exact ⟨rfl, HB.out⟩
        | cons xa A =>
          cases B with
          | nil =>
            obtain ⟨gx, cx, rfl⟩ := lvrow_some H.out.hx
            obtain ⟨ay, cy, rfl⟩ := lvrow_zero H.out.hy
            have HCS := Lib.hid (fun W (h : BS w W D b N R L (.slice (some ⟨gx, 0, none⟩) 1 cx) (.slice ay 0 cy) [xa] [] ba bb (Lvl.cells xa) (Lvl.cells (headF []))) => s_a h)
            go_upto_region 16 with fail
            refine wp_region_held_drew (S := (fun w' => w'.cell? ⟨ba, 0, none⟩ = some (.int .i64 xa.price) ∧ w'.cell? ⟨ba, 1, none⟩ = some (.int .i64 xa.qty) ∧ w'.cell? ⟨ba, 2, none⟩ = some (.int .i64 xa.ords))) (by kernel_rfl) (HCS.out _ H.out.drew) (fun hHeld => ?_)
            replace H := Lib.hid H.out.drew
            generalize w7.drew = w8 at H hHeld ⊢
            refine wpAnyH_take (i := 0) (oi := ⟨some 85, _, _, _, _, _⟩) (v := ?_) rfl (by kernel_rfl) (by kernel_rfl) (by kernel_rfl) (fun _ _ _ h => h) (Or.inl ⟨by rfl, ?_⟩) (by assumption) ?_
            rotate_left
            · (intro w hSw; (try dsimp only at hSw); go_simp; (try with_reducible rfl))
            simp only [Act.put, List.setIfInBounds_toArray, List.set_cons_zero, List.set_cons_succ]
            refine wpAnyH_take (i := 1) (oi := ⟨some 86, _, _, _, _, _⟩) (v := ?_) rfl (by kernel_rfl) (by kernel_rfl) (by kernel_rfl) (fun _ _ _ h => h) (Or.inl ⟨by rfl, ?_⟩) (by assumption) ?_
            rotate_left
            · (intro w hSw; (try dsimp only at hSw); go_simp; (try with_reducible rfl))
            simp only [Act.put, List.setIfInBounds_toArray, List.set_cons_zero, List.set_cons_succ]
            refine wpAnyH_take (i := 2) (oi := ⟨some 87, _, _, _, _, _⟩) (v := ?_) rfl (by kernel_rfl) (by kernel_rfl) (by kernel_rfl) (fun _ _ _ h => h) (Or.inl ⟨by rfl, ?_⟩) (by assumption) ?_
            rotate_left
            · (intro w hSw; (try dsimp only at hSw); go_simp; (try with_reducible rfl))
            simp only [Act.put, List.setIfInBounds_toArray, List.set_cons_zero, List.set_cons_succ]
            refine wpAnyH_take (i := 5) (oi := ⟨some 90, _, _, _, _, _⟩) (v := ?_) rfl (by kernel_rfl) (by kernel_rfl) (by kernel_rfl) (fun _ _ _ h => h) (Or.inl ⟨by rfl, ?_⟩) (by assumption) ?_
            rotate_left
            · (intro w hSw; (try dsimp only at hSw); go_simp; (try with_reducible rfl))
            simp only [Act.put, List.setIfInBounds_toArray, List.set_cons_zero, List.set_cons_succ]
            refine wpAnyH_ready (rs := [3]) (by kernel_rfl) (by simp) ?_
            refine AllReadyH.cons (o := ⟨some 88, _, _, _, _, _⟩) rfl (fun KK hK => ?_) AllReadyH.nil
            go_simp
            change KK _ (w8.alloc (.cells (Lvl.cells xa) 90))
            have HNB := Lib.hid (lvrow_one xa (Blk.new w8 (Lvl.cells xa) 90 w8.heap.size rfl))
            replace H := Lib.hid (H.out.alloc (.cells (Lvl.cells xa) 90))
            generalize w8.alloc (.cells (Lvl.cells xa) 90) = WX1 at HNB H ⊢
            generalize w8.heap.size = nb1 at HNB ⊢
            refine hK.out _ _ (HCS.out _ H.out) (fun hHeld => ?_)
            clear hK; try clear KK
            try simp only [Act.put, List.setIfInBounds_toArray, List.set_cons_zero, List.set_cons_succ]
            refine wpAnyH_ready (rs := [4]) (by kernel_rfl) (by simp) ?_
            refine AllReadyH.cons (o := ⟨some 89, _, _, _, _, _⟩) rfl (fun KK hK => ?_) AllReadyH.nil
            go_simp
            refine (back_any _ _ _ _ HNB.out (by simp)).mono ?_
            rintro e WX2 ⟨v3, rfl, h2, h3⟩
            replace H := Lib.hid (H.out.below h3)
            clear HNB
            have HNB := Lib.hid h2
            clear h2 h3
            go_wp2_with fail
            refine hK.out _ _ (HCS.out _ H.out) (fun hHeld => ?_)
            clear hK; try clear KK
            try simp only [Act.put, List.setIfInBounds_toArray, List.set_cons_zero, List.set_cons_succ]
            refine wpAnyH_ready (rs := [6]) (by kernel_rfl) (by simp) ?_
            refine AllReadyH.cons (o := ⟨some 91, _, _, _, _, _⟩) rfl (fun KK hK => ?_) AllReadyH.nil
            go_simp
            refine (rsame_any _ _ v3 _ _ _ HNB.out H.out.hx).mono ?_
            rintro e WX3 ⟨rfl, h3⟩
            replace H := Lib.hid (H.out.below h3)
            clear h3 HNB
            go_wp2_with fail
            refine hK.out _ _ (HCS.out _ H.out) (fun hHeld => ?_)
            clear hK; try clear KK
            try simp only [Act.put, List.setIfInBounds_toArray, List.set_cons_zero, List.set_cons_succ]
            refine wpAnyH_take (i := 7) (oi := ⟨some 92, _, _, _, _, _⟩) (v := ?_) rfl (by kernel_rfl) (by kernel_rfl) (by kernel_rfl) (fun _ _ _ h => h) (Or.inl ⟨by rfl, ?_⟩) (by assumption) ?_
            rotate_left
            · (intro w hSw; (try dsimp only at hSw); go_simp; (try with_reducible rfl))
            simp only [Act.put, List.setIfInBounds_toArray, List.set_cons_zero, List.set_cons_succ]
            refine wpAnyH_take (i := 8) (oi := ⟨some 93, _, _, _, _, _⟩) (v := ?_) rfl (by kernel_rfl) (by kernel_rfl) (by kernel_rfl) (fun _ _ _ h => h) (Or.inl ⟨by rfl, ?_⟩) (by assumption) ?_
            rotate_left
            · (intro w hSw; (try dsimp only at hSw); go_simp; (try with_reducible rfl))
            simp only [Act.put, List.setIfInBounds_toArray, List.set_cons_zero, List.set_cons_succ]
            refine wpAnyH_take (i := 9) (oi := ⟨some 94, _, _, _, _, _⟩) (v := ?_) rfl (by kernel_rfl) (by kernel_rfl) (by kernel_rfl) (fun _ _ _ h => h) (Or.inl ⟨by rfl, ?_⟩) (by assumption) ?_
            rotate_left
            · (intro w hSw; (try dsimp only at hSw); go_simp; (try with_reducible rfl))
            simp only [Act.put, List.setIfInBounds_toArray, List.set_cons_zero, List.set_cons_succ]
            refine wpAnyH_take (i := 10) (oi := ⟨some 95, _, _, _, _, _⟩) (v := ?_) rfl (by kernel_rfl) (by kernel_rfl) (by kernel_rfl) (fun _ _ _ h => h) (Or.inl ⟨by rfl, ?_⟩) (by assumption) ?_
            rotate_left
            · (intro w hSw; (try dsimp only at hSw); go_simp; (try with_reducible rfl))
            simp only [Act.put, List.setIfInBounds_toArray, List.set_cons_zero, List.set_cons_succ]
            refine wpAnyH_take (i := 11) (oi := ⟨some 96, _, _, _, _, _⟩) (v := ?_) rfl (by kernel_rfl) (by kernel_rfl) (by kernel_rfl) (fun _ _ _ h => h) (Or.inl ⟨by rfl, ?_⟩) (by assumption) ?_
            rotate_left
            · (intro w hSw; (try dsimp only at hSw); go_simp; (try with_reducible rfl))
            simp only [Act.put, List.setIfInBounds_toArray, List.set_cons_zero, List.set_cons_succ]
            refine wpAnyH_take (i := 12) (oi := ⟨some 97, _, _, _, _, _⟩) (v := undef) rfl (by kernel_rfl) (by kernel_rfl) (by kernel_rfl) (fun _ _ _ h => h) (Or.inr ⟨by rfl, rfl⟩) (by assumption) ?_
            simp only [Act.put, List.setIfInBounds_toArray, List.set_cons_zero, List.set_cons_succ]
            refine wpAnyH_take (i := 13) (oi := ⟨some 98, _, _, _, _, _⟩) (v := undef) rfl (by kernel_rfl) (by kernel_rfl) (by kernel_rfl) (fun _ _ _ h => h) (Or.inr ⟨by rfl, rfl⟩) (by assumption) ?_
            simp only [Act.put, List.setIfInBounds_toArray, List.set_cons_zero, List.set_cons_succ]
            refine wpAnyH_take (i := 14) (oi := ⟨some 99, _, _, _, _, _⟩) (v := undef) rfl (by kernel_rfl) (by kernel_rfl) (by kernel_rfl) (fun _ _ _ h => h) (Or.inr ⟨by rfl, rfl⟩) (by assumption) ?_
            simp only [Act.put, List.setIfInBounds_toArray, List.set_cons_zero, List.set_cons_succ]
            refine wpAnyH_take (i := 15) (oi := ⟨some 100, _, _, _, _, _⟩) (v := undef) rfl (by kernel_rfl) (by kernel_rfl) (by kernel_rfl) (fun _ _ _ h => h) (Or.inr ⟨by rfl, rfl⟩) (by assumption) ?_
            simp only [Act.put, List.setIfInBounds_toArray, List.set_cons_zero, List.set_cons_succ]
            refine wpAnyH_take (i := 16) (oi := ⟨some 101, _, _, _, _, _⟩) (v := undef) rfl (by kernel_rfl) (by kernel_rfl) (by kernel_rfl) (fun _ _ _ h => h) (Or.inr ⟨by rfl, rfl⟩) (by assumption) ?_
            simp only [Act.put, List.setIfInBounds_toArray, List.set_cons_zero, List.set_cons_succ]
            refine wpAnyH_take (i := 17) (oi := ⟨some 102, _, _, _, _, _⟩) (v := undef) rfl (by kernel_rfl) (by kernel_rfl) (by kernel_rfl) (fun _ _ _ h => h) (Or.inr ⟨by rfl, rfl⟩) (by assumption) ?_
            simp only [Act.put, List.setIfInBounds_toArray, List.set_cons_zero, List.set_cons_succ]
            refine wpAnyH_take (i := 18) (oi := ⟨some 103, _, _, _, _, _⟩) (v := ?_) rfl (by kernel_rfl) (by kernel_rfl) (by kernel_rfl) (fun _ _ _ h => h) (Or.inl ⟨by rfl, ?_⟩) (by assumption) ?_
            rotate_left
            · (intro w hSw; (try dsimp only at hSw); go_simp; (try with_reducible rfl))
            simp only [Act.put, List.setIfInBounds_toArray, List.set_cons_zero, List.set_cons_succ]
            refine wpAnyH_take (i := 19) (oi := ⟨some 104, _, _, _, _, _⟩) (v := ?_) rfl (by kernel_rfl) (by kernel_rfl) (by kernel_rfl) (fun _ _ _ h => h) (Or.inl ⟨by rfl, ?_⟩) (by assumption) ?_
            rotate_left
            · (intro w hSw; (try dsimp only at hSw); go_simp; (try with_reducible rfl))
            simp only [Act.put, List.setIfInBounds_toArray, List.set_cons_zero, List.set_cons_succ]
            refine wpAnyH_take (i := 20) (oi := ⟨some 105, _, _, _, _, _⟩) (v := ?_) rfl (by kernel_rfl) (by kernel_rfl) (by kernel_rfl) (fun _ _ _ h => h) (Or.inl ⟨by rfl, ?_⟩) (by assumption) ?_
            rotate_left
            · (intro w hSw; (try dsimp only at hSw); go_simp; (try with_reducible rfl))
            simp only [Act.put, List.setIfInBounds_toArray, List.set_cons_zero, List.set_cons_succ]
            refine wpAnyH_take (i := 21) (oi := ⟨some 106, _, _, _, _, _⟩) (v := ?_) rfl (by kernel_rfl) (by kernel_rfl) (by kernel_rfl) (fun _ _ _ h => h) (Or.inl ⟨by rfl, ?_⟩) (by assumption) ?_
            rotate_left
            · (intro w hSw; (try dsimp only at hSw); go_simp; (try with_reducible rfl))
            simp only [Act.put, List.setIfInBounds_toArray, List.set_cons_zero, List.set_cons_succ]
            refine wpAnyH_take (i := 22) (oi := ⟨some 107, _, _, _, _, _⟩) (v := ?_) rfl (by kernel_rfl) (by kernel_rfl) (by kernel_rfl) (fun _ _ _ h => h) (Or.inl ⟨by rfl, ?_⟩) (by assumption) ?_
            rotate_left
            · (intro w hSw; (try dsimp only at hSw); go_simp; (try with_reducible rfl))
            simp only [Act.put, List.setIfInBounds_toArray, List.set_cons_zero, List.set_cons_succ]
            refine wpAnyH_take (i := 23) (oi := ⟨some 108, _, _, _, _, _⟩) (v := undef) rfl (by kernel_rfl) (by kernel_rfl) (by kernel_rfl) (fun _ _ _ h => h) (Or.inr ⟨by rfl, rfl⟩) (by assumption) ?_
            simp only [Act.put, List.setIfInBounds_toArray, List.set_cons_zero, List.set_cons_succ]
            refine wpAnyH_take (i := 24) (oi := ⟨some 109, _, _, _, _, _⟩) (v := undef) rfl (by kernel_rfl) (by kernel_rfl) (by kernel_rfl) (fun _ _ _ h => h) (Or.inr ⟨by rfl, rfl⟩) (by assumption) ?_
            simp only [Act.put, List.setIfInBounds_toArray, List.set_cons_zero, List.set_cons_succ]
            refine wpAnyH_take (i := 25) (oi := ⟨some 110, _, _, _, _, _⟩) (v := undef) rfl (by kernel_rfl) (by kernel_rfl) (by kernel_rfl) (fun _ _ _ h => h) (Or.inr ⟨by rfl, rfl⟩) (by assumption) ?_
            simp only [Act.put, List.setIfInBounds_toArray, List.set_cons_zero, List.set_cons_succ]
            refine wpAnyH_take (i := 26) (oi := ⟨some 111, _, _, _, _, _⟩) (v := undef) rfl (by kernel_rfl) (by kernel_rfl) (by kernel_rfl) (fun _ _ _ h => h) (Or.inr ⟨by rfl, rfl⟩) (by assumption) ?_
            simp only [Act.put, List.setIfInBounds_toArray, List.set_cons_zero, List.set_cons_succ]
            refine wpAnyH_take (i := 27) (oi := ⟨some 112, _, _, _, _, _⟩) (v := undef) rfl (by kernel_rfl) (by kernel_rfl) (by kernel_rfl) (fun _ _ _ h => h) (Or.inr ⟨by rfl, rfl⟩) (by assumption) ?_
            simp only [Act.put, List.setIfInBounds_toArray, List.set_cons_zero, List.set_cons_succ]
            refine wpAnyH_take (i := 28) (oi := ⟨some 113, _, _, _, _, _⟩) (v := undef) rfl (by kernel_rfl) (by kernel_rfl) (by kernel_rfl) (fun _ _ _ h => h) (Or.inr ⟨by rfl, rfl⟩) (by assumption) ?_
            simp only [Act.put, List.setIfInBounds_toArray, List.set_cons_zero, List.set_cons_succ]
            refine wpAnyH_take (i := 29) (oi := ⟨some 114, _, _, _, _, _⟩) (v := undef) rfl (by kernel_rfl) (by kernel_rfl) (by kernel_rfl) (fun _ _ _ h => h) (Or.inr ⟨by rfl, rfl⟩) (by assumption) ?_
            simp only [Act.put, List.setIfInBounds_toArray, List.set_cons_zero, List.set_cons_succ]
            refine wpAnyH_take (i := 30) (oi := ⟨some 115, _, _, _, _, _⟩) (v := undef) rfl (by kernel_rfl) (by kernel_rfl) (by kernel_rfl) (fun _ _ _ h => h) (Or.inr ⟨by rfl, rfl⟩) (by assumption) ?_
            simp only [Act.put, List.setIfInBounds_toArray, List.set_cons_zero, List.set_cons_succ]
            refine wpAnyH_take (i := 31) (oi := ⟨some 116, _, _, _, _, _⟩) (v := undef) rfl (by kernel_rfl) (by kernel_rfl) (by kernel_rfl) (fun _ _ _ h => h) (Or.inr ⟨by rfl, rfl⟩) (by assumption) ?_
            simp only [Act.put, List.setIfInBounds_toArray, List.set_cons_zero, List.set_cons_succ]
            refine wpAnyH_take (i := 32) (oi := ⟨some 117, _, _, _, _, _⟩) (v := undef) rfl (by kernel_rfl) (by kernel_rfl) (by kernel_rfl) (fun _ _ _ h => h) (Or.inr ⟨by rfl, rfl⟩) (by assumption) ?_
            simp only [Act.put, List.setIfInBounds_toArray, List.set_cons_zero, List.set_cons_succ]
            refine wpAnyH_take (i := 33) (oi := ⟨some 118, _, _, _, _, _⟩) (v := undef) rfl (by kernel_rfl) (by kernel_rfl) (by kernel_rfl) (fun _ _ _ h => h) (Or.inr ⟨by rfl, rfl⟩) (by assumption) ?_
            simp only [Act.put, List.setIfInBounds_toArray, List.set_cons_zero, List.set_cons_succ]
            refine wpAnyH_take (i := 34) (oi := ⟨some 119, _, _, _, _, _⟩) (v := ?_) rfl (by kernel_rfl) (by kernel_rfl) (by kernel_rfl) (fun _ _ _ h => h) (Or.inl ⟨by rfl, ?_⟩) (by assumption) ?_
            rotate_left
            · (intro w hSw; (try dsimp only at hSw); go_simp; (try with_reducible rfl))
            simp only [Act.put, List.setIfInBounds_toArray, List.set_cons_zero, List.set_cons_succ]
            refine wpAnyH_take (i := 35) (oi := ⟨some 120, _, _, _, _, _⟩) (v := ?_) rfl (by kernel_rfl) (by kernel_rfl) (by kernel_rfl) (fun _ _ _ h => h) (Or.inl ⟨by rfl, ?_⟩) (by assumption) ?_
            rotate_left
            · (intro w hSw; (try dsimp only at hSw); go_simp; (try with_reducible rfl))
            simp only [Act.put, List.setIfInBounds_toArray, List.set_cons_zero, List.set_cons_succ]
            refine wpAnyH_done (by kernel_rfl) ?_ _
            go_wp2_with fail
            refine (alive_any _).mono ?_
            rintro e w9 ⟨rfl, hb9⟩
            have HB := Lib.hid (H.out.below hb9).ps.bel
            clear hb9
            go_wp2_with fail
            go_ret
            exact ⟨rfl, HB.out⟩
          | cons xb B =>
            obtain ⟨gx, cx, rfl⟩ := lvrow_some H.out.hx
            obtain ⟨gy, cy, rfl⟩ := lvrow_some H.out.hy
            have HCS := Lib.hid (fun W (h : BS w W D b N R L (.slice (some ⟨gx, 0, none⟩) 1 cx) (.slice (some ⟨gy, 0, none⟩) 1 cy) [xa] [xb] ba bb (Lvl.cells xa) (Lvl.cells xb)) => s_ab h)
            have q1 : 0 ≤ xa.price ∧ xa.price ≤ 1099511627776 := p1
            have q2 : 0 ≤ xb.price ∧ xb.price ≤ 1099511627776 := p2
            obtain ⟨q1a, q1b⟩ := q1
            obtain ⟨q2a, q2b⟩ := q2
            have hw : IntKind.i64.wrap (xb.price - xa.price) = xb.price - xa.price := IntWalk.i64_in _ (by omega)
            have hh1 : headF (xa :: A) = xa := rfl
            have hh2 : headF (xb :: B) = xb := rfl
            clear p1 p2
            go_upto_region 16 with fail
            refine wp_region_held_drew (S := (fun w' => (w'.cell? ⟨ba, 0, none⟩ = some (.int .i64 xa.price) ∧ w'.cell? ⟨ba, 1, none⟩ = some (.int .i64 xa.qty) ∧ w'.cell? ⟨ba, 2, none⟩ = some (.int .i64 xa.ords)) ∧ (w'.cell? ⟨bb, 0, none⟩ = some (.int .i64 xb.price) ∧ w'.cell? ⟨bb, 1, none⟩ = some (.int .i64 xb.qty) ∧ w'.cell? ⟨bb, 2, none⟩ = some (.int .i64 xb.ords)) ∧ w'.cell? ⟨gx, 0, none⟩ = some (.int .i64 xa.price) ∧ w'.cell? ⟨gy, 0, none⟩ = some (.int .i64 xb.price))) (by kernel_rfl) (HCS.out _ H.out.drew) (fun hHeld => ?_)
            replace H := Lib.hid H.out.drew
            generalize w7.drew = w8 at H hHeld ⊢
            refine wpAnyH_take (i := 0) (oi := ⟨some 85, _, _, _, _, _⟩) (v := ?_) rfl (by kernel_rfl) (by kernel_rfl) (by kernel_rfl) (fun _ _ _ h => h) (Or.inl ⟨by rfl, ?_⟩) (by assumption) ?_
            rotate_left
            · (intro w hSw; (try dsimp only at hSw); go_simp; (try with_reducible rfl))
            simp only [Act.put, List.setIfInBounds_toArray, List.set_cons_zero, List.set_cons_succ]
            refine wpAnyH_take (i := 1) (oi := ⟨some 86, _, _, _, _, _⟩) (v := ?_) rfl (by kernel_rfl) (by kernel_rfl) (by kernel_rfl) (fun _ _ _ h => h) (Or.inl ⟨by rfl, ?_⟩) (by assumption) ?_
            rotate_left
            · (intro w hSw; (try dsimp only at hSw); go_simp; (try with_reducible rfl))
            simp only [Act.put, List.setIfInBounds_toArray, List.set_cons_zero, List.set_cons_succ]
            refine wpAnyH_take (i := 2) (oi := ⟨some 87, _, _, _, _, _⟩) (v := ?_) rfl (by kernel_rfl) (by kernel_rfl) (by kernel_rfl) (fun _ _ _ h => h) (Or.inl ⟨by rfl, ?_⟩) (by assumption) ?_
            rotate_left
            · (intro w hSw; (try dsimp only at hSw); go_simp; (try with_reducible rfl))
            simp only [Act.put, List.setIfInBounds_toArray, List.set_cons_zero, List.set_cons_succ]
            refine wpAnyH_take (i := 5) (oi := ⟨some 90, _, _, _, _, _⟩) (v := ?_) rfl (by kernel_rfl) (by kernel_rfl) (by kernel_rfl) (fun _ _ _ h => h) (Or.inl ⟨by rfl, ?_⟩) (by assumption) ?_
            rotate_left
            · (intro w hSw; (try dsimp only at hSw); go_simp; (try with_reducible rfl))
            simp only [Act.put, List.setIfInBounds_toArray, List.set_cons_zero, List.set_cons_succ]
            refine wpAnyH_ready (rs := [3]) (by kernel_rfl) (by simp) ?_
            refine AllReadyH.cons (o := ⟨some 88, _, _, _, _, _⟩) rfl (fun KK hK => ?_) AllReadyH.nil
            go_simp
            change KK _ (w8.alloc (.cells (Lvl.cells xa) 90))
            have HNB := Lib.hid (lvrow_one xa (Blk.new w8 (Lvl.cells xa) 90 w8.heap.size rfl))
            replace H := Lib.hid (H.out.alloc (.cells (Lvl.cells xa) 90))
            generalize w8.alloc (.cells (Lvl.cells xa) 90) = WX1 at HNB H ⊢
            generalize w8.heap.size = nb1 at HNB ⊢
            refine hK.out _ _ (HCS.out _ H.out) (fun hHeld => ?_)
            clear hK; try clear KK
            try simp only [Act.put, List.setIfInBounds_toArray, List.set_cons_zero, List.set_cons_succ]
            refine wpAnyH_ready (rs := [4]) (by kernel_rfl) (by simp) ?_
            refine AllReadyH.cons (o := ⟨some 89, _, _, _, _, _⟩) rfl (fun KK hK => ?_) AllReadyH.nil
            go_simp
            refine (back_any _ _ _ _ HNB.out (by simp)).mono ?_
            rintro e WX2 ⟨v3, rfl, h2, h3⟩
            replace H := Lib.hid (H.out.below h3)
            clear HNB
            have HNB := Lib.hid h2
            clear h2 h3
            go_wp2_with fail
            refine hK.out _ _ (HCS.out _ H.out) (fun hHeld => ?_)
            clear hK; try clear KK
            try simp only [Act.put, List.setIfInBounds_toArray, List.set_cons_zero, List.set_cons_succ]
            refine wpAnyH_ready (rs := [6]) (by kernel_rfl) (by simp) ?_
            refine AllReadyH.cons (o := ⟨some 91, _, _, _, _, _⟩) rfl (fun KK hK => ?_) AllReadyH.nil
            go_simp
            refine (rsame_any _ _ v3 _ _ _ HNB.out H.out.hx).mono ?_
            rintro e WX3 ⟨rfl, h3⟩
            replace H := Lib.hid (H.out.below h3)
            clear h3 HNB
            go_wp2_with fail
            refine hK.out _ _ (HCS.out _ H.out) (fun hHeld => ?_)
            clear hK; try clear KK
            try simp only [Act.put, List.setIfInBounds_toArray, List.set_cons_zero, List.set_cons_succ]
            refine wpAnyH_take (i := 7) (oi := ⟨some 92, _, _, _, _, _⟩) (v := ?_) rfl (by kernel_rfl) (by kernel_rfl) (by kernel_rfl) (fun _ _ _ h => h) (Or.inl ⟨by rfl, ?_⟩) (by assumption) ?_
            rotate_left
            · (intro w hSw; (try dsimp only at hSw); go_simp; (try with_reducible rfl))
            simp only [Act.put, List.setIfInBounds_toArray, List.set_cons_zero, List.set_cons_succ]
            refine wpAnyH_take (i := 8) (oi := ⟨some 93, _, _, _, _, _⟩) (v := ?_) rfl (by kernel_rfl) (by kernel_rfl) (by kernel_rfl) (fun _ _ _ h => h) (Or.inl ⟨by rfl, ?_⟩) (by assumption) ?_
            rotate_left
            · (intro w hSw; (try dsimp only at hSw); go_simp; (try with_reducible rfl))
            simp only [Act.put, List.setIfInBounds_toArray, List.set_cons_zero, List.set_cons_succ]
            refine wpAnyH_take (i := 9) (oi := ⟨some 94, _, _, _, _, _⟩) (v := ?_) rfl (by kernel_rfl) (by kernel_rfl) (by kernel_rfl) (fun _ _ _ h => h) (Or.inl ⟨by rfl, ?_⟩) (by assumption) ?_
            rotate_left
            · (intro w hSw; (try dsimp only at hSw); go_simp; (try with_reducible rfl))
            simp only [Act.put, List.setIfInBounds_toArray, List.set_cons_zero, List.set_cons_succ]
            refine wpAnyH_take (i := 10) (oi := ⟨some 95, _, _, _, _, _⟩) (v := ?_) rfl (by kernel_rfl) (by kernel_rfl) (by kernel_rfl) (fun _ _ _ h => h) (Or.inl ⟨by rfl, ?_⟩) (by assumption) ?_
            rotate_left
            · (intro w hSw; (try dsimp only at hSw); go_simp; (try with_reducible rfl))
            simp only [Act.put, List.setIfInBounds_toArray, List.set_cons_zero, List.set_cons_succ]
            refine wpAnyH_take (i := 11) (oi := ⟨some 96, _, _, _, _, _⟩) (v := ?_) rfl (by kernel_rfl) (by kernel_rfl) (by kernel_rfl) (fun _ _ _ h => h) (Or.inl ⟨by rfl, ?_⟩) (by assumption) ?_
            rotate_left
            · (intro w hSw; (try dsimp only at hSw); go_simp; (try with_reducible rfl))
            simp only [Act.put, List.setIfInBounds_toArray, List.set_cons_zero, List.set_cons_succ]
            refine wpAnyH_take (i := 12) (oi := ⟨some 97, _, _, _, _, _⟩) (v := ?_) rfl (by kernel_rfl) (by kernel_rfl) (by kernel_rfl) (fun _ _ _ h => h) (Or.inl ⟨by rfl, ?_⟩) (by assumption) ?_
            rotate_left
            · (intro w hSw; (try dsimp only at hSw); go_simp; (try with_reducible rfl))
            simp only [Act.put, List.setIfInBounds_toArray, List.set_cons_zero, List.set_cons_succ]
            refine wpAnyH_take (i := 15) (oi := ⟨some 100, _, _, _, _, _⟩) (v := ?_) rfl (by kernel_rfl) (by kernel_rfl) (by kernel_rfl) (fun _ _ _ h => h) (Or.inl ⟨by rfl, ?_⟩) (by assumption) ?_
            rotate_left
            · (intro w hSw; (try dsimp only at hSw); go_simp; (try with_reducible rfl))
            simp only [Act.put, List.setIfInBounds_toArray, List.set_cons_zero, List.set_cons_succ]
            refine wpAnyH_ready (rs := [13]) (by kernel_rfl) (by simp) ?_
            refine AllReadyH.cons (o := ⟨some 98, _, _, _, _, _⟩) rfl (fun KK hK => ?_) AllReadyH.nil
            go_simp
            change KK _ (WX3.alloc (.cells (Lvl.cells xb) 90))
            have HNB := Lib.hid (lvrow_one xb (Blk.new WX3 (Lvl.cells xb) 90 WX3.heap.size rfl))
            replace H := Lib.hid (H.out.alloc (.cells (Lvl.cells xb) 90))
            generalize WX3.alloc (.cells (Lvl.cells xb) 90) = WX4 at HNB H ⊢
            generalize WX3.heap.size = nb2 at HNB ⊢
            refine hK.out _ _ (HCS.out _ H.out) (fun hHeld => ?_)
            clear hK; try clear KK
            try simp only [Act.put, List.setIfInBounds_toArray, List.set_cons_zero, List.set_cons_succ]
            refine wpAnyH_ready (rs := [14]) (by kernel_rfl) (by simp) ?_
            refine AllReadyH.cons (o := ⟨some 99, _, _, _, _, _⟩) rfl (fun KK hK => ?_) AllReadyH.nil
            go_simp
            refine (back_any _ _ _ _ HNB.out (by simp)).mono ?_
            rintro e WX5 ⟨v4, rfl, h2, h3⟩
            replace H := Lib.hid (H.out.below h3)
            clear HNB
            have HNB := Lib.hid h2
            clear h2 h3
            go_wp2_with fail
            refine hK.out _ _ (HCS.out _ H.out) (fun hHeld => ?_)
            clear hK; try clear KK
            try simp only [Act.put, List.setIfInBounds_toArray, List.set_cons_zero, List.set_cons_succ]
            refine wpAnyH_ready (rs := [16]) (by kernel_rfl) (by simp) ?_
            refine AllReadyH.cons (o := ⟨some 101, _, _, _, _, _⟩) rfl (fun KK hK => ?_) AllReadyH.nil
            go_simp
            refine (rsame_any _ _ v4 _ _ _ HNB.out H.out.hy).mono ?_
            rintro e WX6 ⟨rfl, h3⟩
            replace H := Lib.hid (H.out.below h3)
            clear h3 HNB
            go_wp2_with fail
            refine hK.out _ _ (HCS.out _ H.out) (fun hHeld => ?_)
            clear hK; try clear KK
            try simp only [Act.put, List.setIfInBounds_toArray, List.set_cons_zero, List.set_cons_succ]
            refine wpAnyH_take (i := 17) (oi := ⟨some 102, _, _, _, _, _⟩) (v := ?_) rfl (by kernel_rfl) (by kernel_rfl) (by kernel_rfl) (fun _ _ _ h => h) (Or.inl ⟨by rfl, ?_⟩) (by assumption) ?_
            rotate_left
            · (intro w hSw; (try dsimp only at hSw); go_simp; (try with_reducible rfl))
            simp only [Act.put, List.setIfInBounds_toArray, List.set_cons_zero, List.set_cons_succ]
            refine wpAnyH_take (i := 18) (oi := ⟨some 103, _, _, _, _, _⟩) (v := ?_) rfl (by kernel_rfl) (by kernel_rfl) (by kernel_rfl) (fun _ _ _ h => h) (Or.inl ⟨by rfl, ?_⟩) (by assumption) ?_
            rotate_left
            · (intro w hSw; (try dsimp only at hSw); go_simp; (try with_reducible rfl))
            simp only [Act.put, List.setIfInBounds_toArray, List.set_cons_zero, List.set_cons_succ]
            refine wpAnyH_take (i := 19) (oi := ⟨some 104, _, _, _, _, _⟩) (v := ?_) rfl (by kernel_rfl) (by kernel_rfl) (by kernel_rfl) (fun _ _ _ h => h) (Or.inl ⟨by rfl, ?_⟩) (by assumption) ?_
            rotate_left
            · (intro w hSw; (try dsimp only at hSw); go_simp; (try with_reducible rfl))
            simp only [Act.put, List.setIfInBounds_toArray, List.set_cons_zero, List.set_cons_succ]
            refine wpAnyH_take (i := 20) (oi := ⟨some 105, _, _, _, _, _⟩) (v := ?_) rfl (by kernel_rfl) (by kernel_rfl) (by kernel_rfl) (fun _ _ _ h => h) (Or.inl ⟨by rfl, ?_⟩) (by assumption) ?_
            rotate_left
            · (intro w hSw; (try dsimp only at hSw); go_simp; (try with_reducible rfl))
            simp only [Act.put, List.setIfInBounds_toArray, List.set_cons_zero, List.set_cons_succ]
            refine wpAnyH_take (i := 21) (oi := ⟨some 106, _, _, _, _, _⟩) (v := ?_) rfl (by kernel_rfl) (by kernel_rfl) (by kernel_rfl) (fun _ _ _ h => h) (Or.inl ⟨by rfl, ?_⟩) (by assumption) ?_
            rotate_left
            · (intro w hSw; (try dsimp only at hSw); go_simp; (try with_reducible rfl))
            simp only [Act.put, List.setIfInBounds_toArray, List.set_cons_zero, List.set_cons_succ]
            refine wpAnyH_take (i := 22) (oi := ⟨some 107, _, _, _, _, _⟩) (v := ?_) rfl (by kernel_rfl) (by kernel_rfl) (by kernel_rfl) (fun _ _ _ h => h) (Or.inl ⟨by rfl, ?_⟩) (by assumption) ?_
            rotate_left
            · (intro w hSw; (try dsimp only at hSw); go_simp; (try with_reducible rfl))
            simp only [Act.put, List.setIfInBounds_toArray, List.set_cons_zero, List.set_cons_succ]
            refine wpAnyH_take (i := 23) (oi := ⟨some 108, _, _, _, _, _⟩) (v := ?_) rfl (by kernel_rfl) (by kernel_rfl) (by kernel_rfl) (fun _ _ _ h => h) (Or.inl ⟨by rfl, ?_⟩) (by assumption) ?_
            rotate_left
            · (intro w hSw; (try dsimp only at hSw); go_simp; (try with_reducible rfl))
            simp only [Act.put, List.setIfInBounds_toArray, List.set_cons_zero, List.set_cons_succ]
            refine wpAnyH_take (i := 24) (oi := ⟨some 109, _, _, _, _, _⟩) (v := ?_) rfl (by kernel_rfl) (by kernel_rfl) (by kernel_rfl) (fun _ _ _ h => h) (Or.inl ⟨by rfl, ?_⟩) (by assumption) ?_
            rotate_left
            · (intro w hSw; (try dsimp only at hSw); go_simp; (try with_reducible rfl))
            simp only [Act.put, List.setIfInBounds_toArray, List.set_cons_zero, List.set_cons_succ]
            refine wpAnyH_take (i := 25) (oi := ⟨some 110, _, _, _, _, _⟩) (v := ?_) rfl (by kernel_rfl) (by kernel_rfl) (by kernel_rfl) (fun _ _ _ h => h) (Or.inl ⟨by rfl, ?_⟩) (by assumption) ?_
            rotate_left
            · (intro w hSw; (try dsimp only at hSw); go_simp; (try with_reducible rfl))
            simp only [Act.put, List.setIfInBounds_toArray, List.set_cons_zero, List.set_cons_succ]
            refine wpAnyH_take (i := 26) (oi := ⟨some 111, _, _, _, _, _⟩) (v := ?_) rfl (by kernel_rfl) (by kernel_rfl) (by kernel_rfl) (fun _ _ _ h => h) (Or.inl ⟨by rfl, ?_⟩) (by assumption) ?_
            rotate_left
            · (intro w hSw; (try dsimp only at hSw); go_simp; (try with_reducible rfl))
            simp only [Act.put, List.setIfInBounds_toArray, List.set_cons_zero, List.set_cons_succ]
            refine wpAnyH_take (i := 27) (oi := ⟨some 112, _, _, _, _, _⟩) (v := ?_) rfl (by kernel_rfl) (by kernel_rfl) (by kernel_rfl) (fun _ _ _ h => h) (Or.inl ⟨by rfl, ?_⟩) (by assumption) ?_
            rotate_left
            · (intro w hSw; (try dsimp only at hSw); go_simp; (try with_reducible rfl))
            simp only [Act.put, List.setIfInBounds_toArray, List.set_cons_zero, List.set_cons_succ]
            refine wpAnyH_take (i := 28) (oi := ⟨some 113, _, _, _, _, _⟩) (v := ?_) rfl (by kernel_rfl) (by kernel_rfl) (by kernel_rfl) (fun _ _ _ h => h) (Or.inl ⟨by rfl, ?_⟩) (by assumption) ?_
            rotate_left
            · (intro w hSw; (try dsimp only at hSw); go_simp; (try with_reducible rfl))
            simp only [Act.put, List.setIfInBounds_toArray, List.set_cons_zero, List.set_cons_succ]
            refine wpAnyH_take (i := 29) (oi := ⟨some 114, _, _, _, _, _⟩) (v := ?_) rfl (by kernel_rfl) (by kernel_rfl) (by kernel_rfl) (fun _ _ _ h => h) (Or.inl ⟨by rfl, ?_⟩) (by assumption) ?_
            rotate_left
            · (intro w hSw; (try dsimp only at hSw); go_simp; (try with_reducible rfl))
            simp only [Act.put, List.setIfInBounds_toArray, List.set_cons_zero, List.set_cons_succ]
            refine wpAnyH_take (i := 30) (oi := ⟨some 115, _, _, _, _, _⟩) (v := ?_) rfl (by kernel_rfl) (by kernel_rfl) (by kernel_rfl) (fun _ _ _ h => h) (Or.inl ⟨by rfl, ?_⟩) (by assumption) ?_
            rotate_left
            · (intro w hSw; (try dsimp only at hSw); go_simp; (try with_reducible rfl))
            simp only [Act.put, List.setIfInBounds_toArray, List.set_cons_zero, List.set_cons_succ]
            refine wpAnyH_take (i := 31) (oi := ⟨some 116, _, _, _, _, _⟩) (v := ?_) rfl (by kernel_rfl) (by kernel_rfl) (by kernel_rfl) (fun _ _ _ h => h) (Or.inl ⟨by rfl, ?_⟩) (by assumption) ?_
            rotate_left
            · (intro w hSw; (try dsimp only at hSw); go_simp; (try with_reducible rfl))
            simp only [Act.put, List.setIfInBounds_toArray, List.set_cons_zero, List.set_cons_succ]
            refine wpAnyH_take (i := 32) (oi := ⟨some 117, _, _, _, _, _⟩) (v := ?_) rfl (by kernel_rfl) (by kernel_rfl) (by kernel_rfl) (fun _ _ _ h => h) (Or.inl ⟨by rfl, ?_⟩) (by assumption) ?_
            rotate_left
            · (intro w hSw; (try dsimp only at hSw); go_simp; (try with_reducible rfl))
            simp only [Act.put, List.setIfInBounds_toArray, List.set_cons_zero, List.set_cons_succ]
            refine wpAnyH_take (i := 33) (oi := ⟨some 118, _, _, _, _, _⟩) (v := ?_) rfl (by kernel_rfl) (by kernel_rfl) (by kernel_rfl) (fun _ _ _ h => h) (Or.inl ⟨by rfl, ?_⟩) (by assumption) ?_
            rotate_left
            · (intro w hSw; (try dsimp only at hSw); go_simp; (try with_reducible rfl))
            simp only [Act.put, List.setIfInBounds_toArray, List.set_cons_zero, List.set_cons_succ]
            refine wpAnyH_take (i := 34) (oi := ⟨some 119, _, _, _, _, _⟩) (v := ?_) rfl (by kernel_rfl) (by kernel_rfl) (by kernel_rfl) (fun _ _ _ h => h) (Or.inl ⟨by rfl, ?_⟩) (by assumption) ?_
            rotate_left
            · (intro w hSw; (try dsimp only at hSw); go_simp; (try with_reducible rfl))
            simp only [Act.put, List.setIfInBounds_toArray, List.set_cons_zero, List.set_cons_succ]
            refine wpAnyH_take (i := 35) (oi := ⟨some 120, _, _, _, _, _⟩) (v := ?_) rfl (by kernel_rfl) (by kernel_rfl) (by kernel_rfl) (fun _ _ _ h => h) (Or.inl ⟨by rfl, ?_⟩) (by assumption) ?_
            rotate_left
            · (intro w hSw; (try dsimp only at hSw); go_simp; (try with_reducible rfl))
            simp only [Act.put, List.setIfInBounds_toArray, List.set_cons_zero, List.set_cons_succ]
            refine wpAnyH_done (by kernel_rfl) ?_ _
            go_wp2_with fail
            refine (alive_any _).mono ?_
            rintro e w9 ⟨rfl, hb9⟩
            have HB := Lib.hid (H.out.below hb9).ps.bel
            clear hb9
            go_wp2_with fail
            go_ret
            exact ⟨rfl, HB.out⟩
end Go.Proofs.Ytogjgpiddjmpiaa.Depth
