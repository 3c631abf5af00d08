/- Parts of the proof: LvlW, LvlB. -/
import Derived.Test.YtogjgpiddjmpiaaPart23
import Derived.Test.YtogjgpiddjmpiaaPart24

/- (*depth.Depth).Levels. -/
namespace Go.Proofs.Ytogjgpiddjmpiaa.Mp
open Go.RowKit Go.ChangeMaps Go.Proofs.Ytogjgpiddjmpiaa.Kit Go.Proofs.Ytogjgpiddjmpiaa.Blk
/-- How many have yet to come. -/
def leftN (r b : Nat) (w : World) : Nat :=
  match w.heap[b]?, w.heap[r]? with
  | some (.map es _), some (.mapIter _ _ seen _) => (leftOf es seen).size
  | _, _ => 0
theorem leftN_of {κ ν : Type} {w : World} {r b : Nat} {ke : κ → Value} {ve : ν → Value} {l left : List (κ × ν)} (h : IterIs w r b ke ve l left) : leftN r b w = left.length := by
  obtain ⟨es, clock, seen, h1, h2, h3, h4, h5, h6⟩ := h
  unfold leftN
  rw [h1, h5]
  dsimp only
  have := congrArg List.length h6
  simpa using this
end Go.Proofs.Ytogjgpiddjmpiaa.Mp
namespace Go.Proofs.Ytogjgpiddjmpiaa.Depth
open Go.RowKit Go.Shelf Go.Proofs.Ytogjgpiddjmpiaa.Kit Go.Proofs.Ytogjgpiddjmpiaa.Blk Go.Proofs.Ytogjgpiddjmpiaa.Mp
set_option linter.unusedVariables false

/-- What rests at a symbol's side. -/
def restV (L : List (Key × Rest)) (sym side : Int) : List PQ := (L.filter fun p => decide (p.1.1 = sym) && decide (p.2.side = side)).map fun p => (p.2.price, p.2.qty)
theorem restV_yes {L : List (Key × Rest)} {p : Key × Rest} {sym side : Int} (h1 : p.1.1 = sym) (h2 : p.2.side = side) : restV (L ++ [p]) sym side = restV L sym side ++ [(p.2.price, p.2.qty)] := by
  simp [restV, List.filter_append, h1, h2]
theorem restV_no {L : List (Key × Rest)} {p : Key × Rest} {sym side : Int} (h : ¬ (p.1.1 = sym ∧ p.2.side = side)) : restV (L ++ [p]) sym side = restV L sym side := by
  have : (decide (p.1.1 = sym) && decide (p.2.side = side)) = false := by simpa using h
  simp [restV, List.filter_append, this]
theorem restV_perm {L M : List (Key × Rest)} (h : L.Perm M) (sym side : Int) : (restV L sym side).Perm (restV M sym side) := (h.filter _).map _
theorem restV_len (L : List (Key × Rest)) (sym side : Int) : (restV L sym side).length ≤ L.length := by
  unfold restV; rw [List.length_map]; exact List.length_filter_le _ _
theorem restV_in {L : List (Key × Rest)} (h : OkL L) (sym side : Int) : ∀ x ∈ restV L sym side, 1 ≤ x.2 ∧ x.2 ≤ 1125899906842624 := by
  intro x hx
  obtain ⟨p, hp, rfl⟩ := List.mem_map.1 hx
  have := h p (List.mem_filter.1 hp).1
  exact ⟨this.1, this.2.1⟩
theorem restV_side {L : List (Key × Rest)} (h : OkL L) (sym side : Int) : side = 0 ∨ side = 1 ∨ restV L sym side = [] := by
  by_cases h0 : side = 0
  · exact .inl h0
  · by_cases h1 : side = 1
    · exact .inr (.inl h1)
    · refine .inr (.inr ?_)
      unfold restV
      rw [List.map_eq_nil_iff, List.filter_eq_nil_iff]
      intro p hp
      have := h p hp
      simp only [Bool.and_eq_true, decide_eq_true_eq]
      omega
theorem mput_len {κ ν : Type} [DecidableEq κ] (k : κ) (v : ν) (l : List (κ × ν)) : (mput k v l).length ≤ l.length + 1 := by
  induction l with
  | nil => simp [mput]
  | cons p l ih =>
    obtain ⟨a, u⟩ := p
    by_cases h : k = a
    · simp [mput, h]
    · simp only [mput, h, if_false, List.length_cons]; omega
theorem putL_len (A : List (Int × Lvl)) (x : PQ) : (putL A x).length ≤ A.length + 1 := mput_len _ _ _
/-- So many of them at most. -/
def cutF (most : Int) (S : List Lvl) : List Lvl := if 0 ≤ most ∧ most < S.length then S.take most.toNat else S
theorem LvRow.take {W : World} {N : Nat} {a : Option Addr} {c : Nat} {S : List Lvl} (h : LvRow W N (.slice a S.length c) S) {m : Nat} (hm : m < S.length) : LvRow W N (.slice a m m) (S.take m) := by
  obtain ⟨a', c', h1, h2, h3, h4⟩ := h
  injection h1 with h1 _ h5
  subst h1 h5
  have hl : (S.take m).length = m := by rw [List.length_take]; omega
  refine ⟨a, m, by rw [hl], by omega, by omega, fun i hi => ?_⟩
  obtain ⟨g, f1, f2, f3, f4⟩ := h4 i (by omega)
  refine ⟨g, f1, f2, f3, fun j u hu => f4 j u ?_⟩
  rwa [List.getElem_take] at hu
theorem lvS_perm {s : Int} {V W : List PQ} (hp : V.Perm W) {S : List Lvl} (h : LvS s V S) : LvS s W S :=
  ⟨h.ord, fun x => by rw [h.mem, sum_perm hp, num_perm hp, (hp.map (·.1)).mem_iff]⟩
/-- What Levels answers. -/
def LevIs (L : List (Key × Rest)) (sym side most : Int) (w : World) (e : Ending) (w' : World) : Prop :=
  ∃ S v, LvS side (restV L sym side) S ∧ e = .returned v ∧ LvRow w' w.heap.size v (cutF most S) ∧ Below w.heap.size w w'
/-- Where the loop stands. -/
def LevAt (L : List (Key × Rest)) (sym side : Int) (b bm r N : Nat) (w wr : World) : Prop :=
  ∃ vis left A, (vis ++ left).Perm L ∧ IterIs wr r b ke ve L left ∧ MapIs wr bm k64 lv A ∧ LvA (restV vis sym side) A ∧ A.length ≤ vis.length ∧ Below N w wr

set_option maxRecDepth 20000 in
set_option maxHeartbeats 4000000 in
theorem levels_any (D b : Nat) (L : List (Key × Rest)) (sym side most : Int) (w : World) (h : DS w D b L) (hok : OkL L) (hl : L.length ≤ 1000) :
    Calls Try.prog 41 #[.pointer (some ⟨D, 0, none⟩), .int .i64 sym, .int .i64 side, .int .i64 most] w (LevIs L sym side most w) := by
  have hmm := @run_makeMap Try.prog
  have hD := h.box.lt
  have hb := h.map.lt
  have HD1 := Lib.hid (h.alloc (.map #[] 0))
  have HM1 := Lib.hid (mapIs_new w w.heap.size rfl k64 lv)
  have HB1 := Lib.hid ((Below.refl w.heap.size w).alloc (Nat.le_refl _) (.map #[] 0))
  obtain ⟨o, hrange, hit⟩ := run_range (P := Try.prog) HD1.out.map (T := 160) Try.underlying160
  have hs1 : (w.alloc (.map #[] 0)).heap.size = w.heap.size + 1 := by simp
  rw [hs1] at hit hrange
  have HIT := Lib.hid hit
  have HOK := Lib.hid hok
  have HM2 := Lib.hid (HM1.out.old o)
  have HB2 := Lib.hid (HB1.out.alloc (by omega) o)
  have cD : (w.alloc (.map #[] 0)).cell? ⟨D, 0, none⟩ = some (.map (some b)) := HD1.out.box.cell 0 rfl
  clear h hit hok
  go_enter Try.func41, Try.ntmps41
  go_wp2_with fail
  go_loopw [21] (fun _ wr => LevAt L sym side b w.heap.size (w.heap.size + 1) w.heap.size w wr) (fun _ wr => leftN (w.heap.size + 1) b wr)
  case atStart => exact ⟨[], L, [], List.Perm.refl _, HIT.out, HM2.out, lvA_nil, Nat.le_refl _, HB2.out⟩
  case round =>
    obtain ⟨vis, left, A, hp, hi, hm, ha, hal, hb2⟩ := hrel
    have HP := Lib.hid hp
    have HA := Lib.hid ha
    have HBL := Lib.hid hb2
    clear hp ha hb2 hmm hrange cD HIT HM2 HB2 HD1 HM1 HB1 hs1
    rcases run_next (P := Try.prog) hi 0 with ⟨rfl, hnext⟩ | ⟨l1, p, l2, W2, rfl, hnext, hent, hi2, hc2, hs2⟩
    · have hp2 : vis.Perm L := by have := HP.out; rwa [List.append_nil] at this
      have HS := Lib.hid (sorted_any side (restV vis sym side) (restV_side (fun p hp => HOK.out p (hp2.mem_iff.1 hp)) sym side) A HA.out (by have := hp2.length_eq; omega) w.heap.size wr hm)
      have HP2 := Lib.hid hp2
      clear hm hi hp2
      go_wp2_with fail
      refine HS.out.mono ?_
      rintro e w2 ⟨S, v, h1, rfl, h2, h3⟩
      have H1 := Lib.hid (lvS_perm (restV_perm HP2.out sym side) h1)
      have H3 := Lib.hid (HBL.out.trans (h3.mono HBL.out.size))
      have H2 := Lib.hid (show LvRow w2 w.heap.size v S from by
        obtain ⟨a, c, e1, e2, e3, e4⟩ := h2
        exact ⟨a, c, e1, e2, e3, fun i hi => by obtain ⟨g, f1, f2, f3⟩ := e4 i hi; exact ⟨g, f1, Nat.le_trans HBL.out.size f2, f3⟩⟩)
      obtain ⟨a, c, rfl, hc1, hc2, -⟩ := h2
      unfold maxLen at hc2
      clear h1 h3 HS hnext
      by_cases hm0 : 0 ≤ most
      · by_cases hm1 : most < S.length
        · have HE := Lib.hid (show cutF most S = S.take most.toNat by simp [cutF, hm0, hm1])
          obtain ⟨m, rfl⟩ := Int.eq_ofNat_of_zero_le hm0
          have HR := Lib.hid (H2.out.take (m := m) (by omega))
          go_wp2_with fail
          go_ret
          exact ⟨S, _, H1.out, rfl, by rw [HE.out]; exact HR.out, H3.out⟩
        · have HE := Lib.hid (show cutF most S = S by simp [cutF, hm1])
          go_wp2_with fail
          go_ret
          exact ⟨S, _, H1.out, rfl, by rw [HE.out]; exact H2.out, H3.out⟩
      · have HE := Lib.hid (show cutF most S = S by simp [cutF, hm0])
        go_wp2_with fail
        go_ret
        exact ⟨S, _, H1.out, rfl, by rw [HE.out]; exact H2.out, H3.out⟩
    · have hkey : ke p.1 = .agg #[.int .i64 p.1.1, .int .i64 p.1.2] := rfl
      have hval : ve p.2 = .agg #[.int .i64 p.2.side, .int .i64 p.2.price, .int .i64 p.2.qty] := rfl
      rw [hkey, hval] at hnext hent
      have hlt := hi.lt
      have hmlt := hm.lt
      have HI0 := Lib.hid hi
      have HM2 := Lib.hid (hm.chg hc2 hmlt (by omega))
      have HI2 := Lib.hid hi2
      have HBL2 := Lib.hid (HBL.out.trans (hc2.below' (m := w.heap.size) (by omega) HBL.out.size))
      have HPP := Lib.hid (show ((vis ++ [p]) ++ (l1 ++ l2)).Perm L from by
        refine List.Perm.trans ?_ HP.out
        rw [List.append_assoc]
        exact List.Perm.append_left _ (List.perm_middle (a := p) (l₁ := l1) (l₂ := l2)).symm)
      have hvl : vis.length + 1 ≤ L.length := by have := HPP.out.length_eq; simp at this; omega
      obtain ⟨⟨k1, k2⟩, ps, pp, pq⟩ := p
      dsimp only at hnext hent
      have hsz : w.heap.size + 1 < W2.heap.size := by omega
      have HA2 := Lib.hid (Below.trans (((Below.refl W2.heap.size W2).alloc (Nat.le_refl _) (.cells #[.int .i64 k1, .int .i64 k2] 164))) (((Below.refl W2.heap.size _).alloc (by simp) (.cells #[.int .i64 ps, .int .i64 pp, .int .i64 pq] 166))))
      clear hm hi hkey hval hi2 hc2 hmlt
      by_cases hin : k1 = sym ∧ ps = side
      · obtain ⟨rfl, rfl⟩ := hin
        have HV := Lib.hid (restV_yes (L := vis) (p := ((k1, k2), ⟨ps, pp, pq⟩)) (sym := k1) (side := ps) rfl rfl)
        have hq := HOK.out _ (HPP.out.mem_iff.1 (List.mem_append_left _ (List.mem_append_right _ (List.mem_singleton.2 rfl))))
        have hin := sum_in (restV vis k1 ps) 1125899906842624 (by omega) (fun x hx => by have := restV_in (fun q hq => HOK.out q (HPP.out.mem_iff.1 (by simp [hq]))) k1 ps x hx; omega) pp
        have hvl2 := restV_len vis k1 ps
        dsimp only at hq
        have HPT := Lib.hid (lput_any w.heap.size (restV vis k1 ps) A (pp, pq) _ (HM2.out.below HA2.out HM2.out.lt) HA.out (by dsimp only; omega) (by
          dsimp only
          have : ((restV vis k1 ps).length : Int) * 1125899906842624 ≤ 1000 * 1125899906842624 := Int.mul_le_mul_of_nonneg_right (by omega) (by omega)
          omega) (by omega))
        clear hin hq
        go_wp2_with fail
        refine HPT.out.mono ?_
        rintro e w3 ⟨rfl, hm3, hc3⟩
        have HI3 := Lib.hid ((HI2.out.below HA2.out).chg hc3 (Nat.lt_of_lt_of_le HI2.out.map.lt HA2.out.size) (Nat.lt_of_lt_of_le HI2.out.lt HA2.out.size) (by omega) (by omega))
        have HM3 := Lib.hid hm3
        have HB3 := Lib.hid ((HBL2.out.trans (HA2.out.mono (by omega))).trans (hc3.below' (m := w.heap.size) (Nat.le_refl _) (by have := HA2.out.size; omega)))
        clear hm3 hc3 HPT
        go_wp2_with fail
        go_roundw
        case rel => exact ⟨vis ++ [((k1, k2), ⟨ps, pp, pq⟩)], l1 ++ l2, _, HPP.out, HI3.out, HM3.out, by rw [HV.out]; exact (lvA_put HA.out (pp, pq)).1, by have := putL_len A (pp, pq); simp; omega, HB3.out⟩
        case measure =>
          rw [leftN_of HI3.out, leftN_of HI0.out]; simp
      · have HV := Lib.hid (restV_no (L := vis) (p := ((k1, k2), ⟨ps, pp, pq⟩)) (sym := sym) (side := side) hin)
        have HI3 := Lib.hid (HI2.out.below HA2.out)
        have HM3 := Lib.hid (HM2.out.below HA2.out HM2.out.lt)
        have HB3 := Lib.hid (HBL2.out.trans (HA2.out.mono (by omega)))
        by_cases h1 : k1 = sym
        · have h2 : ¬ ps = side := fun e => hin ⟨h1, e⟩
          have g1 : (k1 == sym) = true := by simpa using h1
          have g2 : (ps == side) = false := by simpa using h2
          clear hin h1 h2
          go_wp2_with fail
          go_roundw
          case rel => exact ⟨vis ++ [((k1, k2), ⟨ps, pp, pq⟩)], l1 ++ l2, A, HPP.out, HI3.out, HM3.out, by rw [HV.out]; exact HA.out, by simp; omega, HB3.out⟩
          case measure =>
            rw [leftN_of HI3.out, leftN_of HI0.out]; simp
        · have g1 : (k1 == sym) = false := by simpa using h1
          clear hin h1
          go_wp2_with fail
          go_roundw
          case rel => exact ⟨vis ++ [((k1, k2), ⟨ps, pp, pq⟩)], l1 ++ l2, A, HPP.out, HI3.out, HM3.out, by rw [HV.out]; exact HA.out, by simp; omega, HB3.out⟩
          case measure =>
            rw [leftN_of HI3.out, leftN_of HI0.out]; simp
end Go.Proofs.Ytogjgpiddjmpiaa.Depth

/- (*depth.Depth).Best, .Spread; of a nil depth. -/
namespace Go.Proofs.Ytogjgpiddjmpiaa.Depth
open Go.RowKit Go.Shelf Go.Proofs.Ytogjgpiddjmpiaa.Kit Go.Proofs.Ytogjgpiddjmpiaa.Blk Go.Proofs.Ytogjgpiddjmpiaa.Mp
set_option linter.unusedVariables false

def headF (S : List Lvl) : Lvl := S.headD ⟨0, 0, 0⟩
/-- What Best answers. -/
def BestIs (L : List (Key × Rest)) (sym side : Int) (w : World) (e : Ending) (w' : World) : Prop :=
  ∃ S, LvS side (restV L sym side) S ∧ e = .returned (.tuple #[.agg #[.int .i64 (headF S).price, .int .i64 (headF S).qty, .int .i64 (headF S).ords], .bool (!S.isEmpty)]) ∧ Below w.heap.size w w'

set_option maxRecDepth 20000 in
set_option maxHeartbeats 4000000 in
theorem best_any (D b : Nat) (L : List (Key × Rest)) (sym side : Int) (w : World) (h : DS w D b L) (hok : OkL L) (hl : L.length ≤ 1000) :
    Calls Try.prog 45 #[.pointer (some ⟨D, 0, none⟩), .int .i64 sym, .int .i64 side] w (BestIs L sym side w) := by
  have hb1 : Below w.heap.size w (w.alloc (.cells lvlZ 90)) := (Below.refl _ _).alloc (Nat.le_refl _) _
  have HL := Lib.hid (levels_any D b L sym side 1 _ (h.alloc (.cells lvlZ 90)) hok hl)
  have HB := Lib.hid hb1
  have HX := Lib.hid (Blk.new w lvlZ 90 w.heap.size rfl)
  clear h hok hb1
  unfold lvlZ at *
  go_enter Try.func45, Try.ntmps45
  go_wp2_with fail
  refine HL.out.mono ?_
  rintro e w2 ⟨S, v, h1, rfl, h2, h3⟩
  have H1 := Lib.hid h1
  have H3 := Lib.hid (HB.out.trans (h3.mono HB.out.size))
  have HX2 := Lib.hid (HX.out.below h3 HX.out.lt)
  obtain ⟨a, c, rfl, hc1, hc2, hc3⟩ := h2
  unfold maxLen at hc2
  clear h1 h3 HL HX
  cases S with
  | nil =>
    have hx0 := HX2.out.cell 0 rfl
    have hx1 := HX2.out.cell 1 rfl
    have hx2 := HX2.out.cell 2 rfl
    have f0 := HX2.out.free 0
    have f1 := HX2.out.free 1
    have f2 := HX2.out.free 2
    have HX3 := Lib.hid (((HX2.out.set 0 (.int .i64 0)).set 1 (.int .i64 0)).set 2 (.int .i64 0))
    have H4 := Lib.hid (((H3.out.setCell (p := ⟨w.heap.size, 0, none⟩) (Nat.le_refl _) (.int .i64 0)).setCell (p := ⟨w.heap.size, 1, none⟩) (Nat.le_refl _) (.int .i64 0)).setCell (p := ⟨w.heap.size, 2, none⟩) (Nat.le_refl _) (.int .i64 0))
    clear hc3
    dsimp only [cutF, List.length_nil] at *
    go_wp2_with fail
    have e0 := HX3.out.cell 0 rfl
    have e1 := HX3.out.cell 1 rfl
    have e2 := HX3.out.cell 2 rfl
    refine bodyPost_ret (v := .tuple #[.agg #[.int .i64 0, .int .i64 0, .int .i64 0], .bool false]) (by simp [results, Try.results45, go_sem, e0, e1, e2]) rfl ⟨[], H1.out, rfl, H4.out⟩
  | cons x S =>
    have hlen : (cutF 1 (x :: S)).length = 1 ∧ ∀ h : 0 < (cutF 1 (x :: S)).length, (cutF 1 (x :: S))[0] = x := by
      unfold cutF
      split
      · exact ⟨by simp, fun h => by simp⟩
      · rename_i hn
        have : S = [] := by
          cases S with
          | nil => rfl
          | cons y S => exact absurd ⟨by omega, by simp; omega⟩ hn
        subst this
        exact ⟨rfl, fun _ => rfl⟩
    obtain ⟨g, rfl, hg1, hg2, hcell⟩ := hc3 0 (by omega)
    rw [hlen.2] at hcell
    have c0 : w2.cell? ⟨g, 0, none⟩ = some (.int .i64 x.price) := hcell 0 _ rfl
    have c1 : w2.cell? ⟨g, 1, none⟩ = some (.int .i64 x.qty) := hcell 1 _ rfl
    have c2 : w2.cell? ⟨g, 2, none⟩ = some (.int .i64 x.ords) := hcell 2 _ rfl
    rw [hlen.1]
    have hx0 := HX2.out.cell 0 rfl
    have hx1 := HX2.out.cell 1 rfl
    have hx2 := HX2.out.cell 2 rfl
    have f0 := HX2.out.free 0
    have f1 := HX2.out.free 1
    have f2 := HX2.out.free 2
    have HX3 := Lib.hid (((HX2.out.set 0 (.int .i64 x.price)).set 1 (.int .i64 x.qty)).set 2 (.int .i64 x.ords))
    have H4 := Lib.hid (((H3.out.setCell (p := ⟨w.heap.size, 0, none⟩) (Nat.le_refl _) (.int .i64 x.price)).setCell (p := ⟨w.heap.size, 1, none⟩) (Nat.le_refl _) (.int .i64 x.qty)).setCell (p := ⟨w.heap.size, 2, none⟩) (Nat.le_refl _) (.int .i64 x.ords))
    clear hcell hc3 hlen
    go_wp2_with fail
    have e0 := HX3.out.cell 0 rfl
    have e1 := HX3.out.cell 1 rfl
    have e2 := HX3.out.cell 2 rfl
    refine bodyPost_ret (v := .tuple #[.agg #[.int .i64 x.price, .int .i64 x.qty, .int .i64 x.ords], .bool true]) (by simp [results, Try.results45, go_sem, e0, e1, e2]) rfl ⟨x :: S, H1.out, rfl, H4.out⟩
theorem restV_price {L : List (Key × Rest)} (h : OkL L) {sym side : Int} {S : List Lvl} (hS : LvS side (restV L sym side) S) : 0 ≤ (headF S).price ∧ (headF S).price ≤ 1099511627776 := by
  cases S with
  | nil => exact ⟨Int.le_refl _, by decide⟩
  | cons x S =>
    have h1 := ((hS.mem x).1 List.mem_cons_self).1
    obtain ⟨q, hq, he⟩ := List.mem_map.1 h1
    obtain ⟨p, hp, rfl⟩ := List.mem_map.1 hq
    have := h p (List.mem_filter.1 hp).1
    show 0 ≤ x.price ∧ x.price ≤ _
    rw [← he]
    dsimp only
    omega
/-- What Spread answers. -/
def SprIs (L : List (Key × Rest)) (sym : Int) (w : World) (e : Ending) (w' : World) : Prop :=
  ∃ S T, LvS 0 (restV L sym 0) S ∧ LvS 1 (restV L sym 1) T ∧ e = .returned (.tuple #[.int .i64 (if (!S.isEmpty && !T.isEmpty) = true then (headF T).price - (headF S).price else 0), .bool (!S.isEmpty && !T.isEmpty)]) ∧ Below w.heap.size w w'

set_option maxRecDepth 20000 in
set_option maxHeartbeats 4000000 in
theorem spread_any (D b : Nat) (L : List (Key × Rest)) (sym : Int) (w : World) (h : DS w D b L) (hok : OkL L) (hl : L.length ≤ 1000) :
    Calls Try.prog 46 #[.pointer (some ⟨D, 0, none⟩), .int .i64 sym] w (SprIs L sym w) := by
  have HL := Lib.hid (best_any D b L sym 0 w h hok hl)
  have HD := Lib.hid h
  have HOK := Lib.hid hok
  clear h hok
  go_enter Try.func46, Try.ntmps46
  go_wp2_with fail
  refine HL.out.mono ?_
  rintro e w2 ⟨S, h1, rfl, hb1⟩
  have H1 := Lib.hid h1
  have HB1 := Lib.hid (hb1.alloc hb1.size (.cells #[.int .i64 (headF S).price, .int .i64 (headF S).qty, .int .i64 (headF S).ords] 90))
  have HD1 := Lib.hid ((HD.out.below hb1).alloc (.cells #[.int .i64 (headF S).price, .int .i64 (headF S).qty, .int .i64 (headF S).ords] 90))
  have HX1 := Lib.hid (Blk.new w2 #[.int .i64 (headF S).price, .int .i64 (headF S).qty, .int .i64 (headF S).ords] 90 w2.heap.size rfl)
  have HL2 := Lib.hid (best_any D b L sym 1 _ HD1.out HOK.out hl)
  clear h1 hb1 HL HD HD1
  go_wp2_with fail
  refine HL2.out.mono ?_
  rintro e w3 ⟨T, h2, rfl, hb2⟩
  have H2 := Lib.hid h2
  have HB2 := Lib.hid ((HB1.out.trans (hb2.mono HB1.out.size)).alloc (Nat.le_trans HB1.out.size hb2.size) (.cells #[.int .i64 (headF T).price, .int .i64 (headF T).qty, .int .i64 (headF T).ords] 90))
  have HX2 := Lib.hid ((HX1.out.below hb2 HX1.out.lt).old (.cells #[.int .i64 (headF T).price, .int .i64 (headF T).qty, .int .i64 (headF T).ords] 90))
  have p1 := restV_price HOK.out H1.out
  have p2 := restV_price HOK.out H2.out
  have hx : w3.cell? ⟨w2.heap.size, 0, none⟩ = some (.int .i64 (headF S).price) := (HX1.out.below hb2 HX1.out.lt).cell 0 rfl
  have hlt : w2.heap.size < w3.heap.size := (HX1.out.below hb2 HX1.out.lt).lt
  clear h2 hb2 HL2 HX1
  cases h1 : S.isEmpty with
  | true =>
    go_wp2_with fail
    go_ret2
    exact ⟨S, T, H1.out, H2.out, by simp [h1], HB2.out⟩
  | false =>
    cases h2 : T.isEmpty with
    | true =>
      go_wp2_with fail
      go_ret2
      exact ⟨S, T, H1.out, H2.out, by simp [h2], HB2.out⟩
    | false =>
      go_wp2_with fail
      go_ret2
      exact ⟨S, T, H1.out, H2.out, by simp [h1, h2], HB2.out⟩

theorem levels_nil (sym side most : Int) (w : World) : Calls Try.prog 41 #[.pointer none, .int .i64 sym, .int .i64 side, .int .i64 most] w fun e w' => e = .returned (.slice none 0 0) ∧ w = w' := by
  go_enter Try.func41, Try.ntmps41
  go_wp2_with fail
  go_ret
  exact ⟨rfl, rfl⟩
theorem best_nil (sym side : Int) (w : World) : Calls Try.prog 45 #[.pointer none, .int .i64 sym, .int .i64 side] w fun e w' => e = .returned (.tuple #[.agg #[.int .i64 0, .int .i64 0, .int .i64 0], .bool false]) ∧ Below w.heap.size w w' := by
  have HX := Lib.hid (((Blk.new w lvlZ 90 w.heap.size rfl)))
  have HB := Lib.hid ((Below.refl w.heap.size w).alloc (Nat.le_refl _) (.cells lvlZ 90))
  unfold lvlZ at *
  go_enter Try.func45, Try.ntmps45
  go_wp2_with fail
  refine (levels_nil _ _ _ _).mono ?_
  rintro e w2 ⟨rfl, rfl⟩
  go_wp2_with fail
  refine bodyPost_ret (v := .tuple #[.agg #[.int .i64 0, .int .i64 0, .int .i64 0], .bool false]) (by simp [results, Try.results45, go_sem]) rfl ⟨rfl, ?_⟩
  exact HB.out
theorem spread_nil (sym : Int) (w : World) : Calls Try.prog 46 #[.pointer none, .int .i64 sym] w fun e w' => e = .returned (.tuple #[.int .i64 0, .bool false]) ∧ Below w.heap.size w w' := by
  go_enter Try.func46, Try.ntmps46
  go_wp2_with fail
  refine (best_nil _ _ _).mono ?_
  rintro e w2 ⟨rfl, hb1⟩
  have HB1 := Lib.hid (hb1.alloc hb1.size (.cells #[.int .i64 0, .int .i64 0, .int .i64 0] 90))
  clear hb1
  go_wp2_with fail
  refine (best_nil _ _ _).mono ?_
  rintro e w3 ⟨rfl, hb2⟩
  have HB2 := Lib.hid ((HB1.out.trans (hb2.mono HB1.out.size)).alloc (Nat.le_trans HB1.out.size hb2.size) (.cells #[.int .i64 0, .int .i64 0, .int .i64 0] 90))
  clear hb2
  go_wp2_with fail
  go_ret2
  exact ⟨rfl, HB2.out⟩
end Go.Proofs.Ytogjgpiddjmpiaa.Depth
