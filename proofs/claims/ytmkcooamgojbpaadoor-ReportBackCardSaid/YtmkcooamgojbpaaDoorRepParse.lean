/- report.Parse. -/
import Derived.Test.YtmkcooamgojbpaaDoorRepLine
import Derived.Test.YtmkcooamgojbpaaDoorNumberW
import Derived.Test.YtmkcooamgojbpaaDoorBig
namespace Go.Proofs.YtmkcooamgojbpaaDoor.Reports
open Go.RowKit Go.Proofs.YtmkcooamgojbpaaDoor.Kit Go.Proofs.YtmkcooamgojbpaaDoor.Blk Go.Proofs.YtmkcooamgojbpaaDoor.Dec Go.Proofs.YtmkcooamgojbpaaDoor.Words Go.Proofs.YtmkcooamgojbpaaDoor.Octets Go.Proofs.YtmkcooamgojbpaaDoor.Lines Go.Proofs.YtmkcooamgojbpaaDoor.Msgs Go.Proofs.YtmkcooamgojbpaaDoor.Open
attribute [local go_sem ↓] Go.wp_at_zero Go.wp_at_succ
set_option linter.unusedVariables false

/-- Where the reading of a message stands. -/
structure PS (w : World) (rb S C : Nat) (ws : List (List UInt8)) (mc : Array Value) (sv cv : Int) (W : World) : Prop where
  m : Blk W w.heap.size mc 62
  s : Blk W S #[.int .i64 sv] 2
  c : Blk W C #[.int .i64 cv] 2
  row : ∀ j, (h : j < ws.length) → W.cell? ⟨rb, j, none⟩ = some (.string (strB ws[j]))
  bel : Below w.heap.size w W
  rm : rb ≠ w.heap.size
  ms : w.heap.size < S
  rs : rb < S
  sc : S < C
section
variable {w W W' : World} {rb S C : Nat} {ws : List (List UInt8)} {mc : Array Value} {sv cv : Int}
theorem PS.below (h : PS w rb S C ws mc sv cv W) (hb : Below W.heap.size W W') : PS w rb S C ws mc sv cv W' :=
  ⟨h.m.below hb h.m.lt, h.s.below hb h.s.lt, h.c.below hb h.c.lt, fun j hj => by rw [hb.cell (p := ⟨rb, j, none⟩) (Nat.lt_trans h.rs h.s.lt)]; exact h.row j hj, h.bel.trans (hb.mono h.bel.size), h.rm, h.ms, h.rs, h.sc⟩
theorem PS.far (h : PS w rb S C ws mc sv cv W) {a : Addr} (ha : a.block ≠ rb) (v : Value) : ∀ j, (hj : j < ws.length) → (W.setCell a v).cell? ⟨rb, j, none⟩ = some (.string (strB ws[j])) := fun j hj => by
  rw [World.cell?_of_block (w := W) (w' := W.setCell a v) (a := ⟨rb, j, none⟩) (Below.heap_setCell _ _ _ _ (fun e => ha e.symm))]; exact h.row j hj
theorem PS.putM (h : PS w rb S C ws mc sv cv W) (i : Nat) (v : Value) : PS w rb S C ws (mc.setIfInBounds i v) sv cv (W.setCell ⟨w.heap.size, i, none⟩ v) :=
  have h1 := h.rm; have h2 := h.ms; have h4 := h.rs; have h3 := h.sc
  ⟨h.m.set i v, h.s.apart _ _ (by show w.heap.size ≠ _; omega), h.c.apart _ _ (by show w.heap.size ≠ _; omega), h.far (by show w.heap.size ≠ _; omega) v, h.bel.setCell (Nat.le_refl _) _, h.rm, h.ms, h.rs, h.sc⟩
theorem PS.putS (h : PS w rb S C ws mc sv cv W) (x : Int) : PS w rb S C ws mc x cv (W.setCell ⟨S, 0, none⟩ (.int .i64 x)) :=
  have h1 := h.rm; have h2 := h.ms; have h4 := h.rs; have h3 := h.sc
  ⟨h.m.apart _ _ (by show S ≠ _; omega), h.s.set 0 _, h.c.apart _ _ (by show S ≠ _; omega), h.far (by show S ≠ _; omega) _, h.bel.setCell (by show _ ≤ S; omega) _, h.rm, h.ms, h.rs, h.sc⟩
theorem PS.putC (h : PS w rb S C ws mc sv cv W) (x : Int) : PS w rb S C ws mc sv x (W.setCell ⟨C, 0, none⟩ (.int .i64 x)) :=
  have h1 := h.rm; have h2 := h.ms; have h4 := h.rs; have h3 := h.sc
  ⟨h.m.apart _ _ (by show C ≠ _; omega), h.s.apart _ _ (by show C ≠ _; omega), h.c.set 0 _, h.far (by show C ≠ _; omega) _, h.bel.setCell (by show _ ≤ C; omega) _, h.rm, h.ms, h.rs, h.sc⟩
end
def numAt (ws : List (List UInt8)) (j : Nat) : Int := (numF ((ws[j]?).getD [])).getD 0
def pk (k j : Nat) (v : Int) : Int := if j < k then v else 0
def cellsK (ws : List (List UInt8)) (k : Nat) : Array Value := #[.int .i64 (pk k 3 (kindF ((ws[3]?).getD []))), .int .i64 0, .int .i64 (pk k 0 (numAt ws 0)), .int .i64 (pk k 1 (numAt ws 1)), .int .i64 (pk k 4 (numAt ws 4)), .int .i64 (pk k 5 (numAt ws 5)), .int .i64 (pk k 6 (numAt ws 6)), .int .i64 (pk k 7 (numAt ws 7)), .int .i64 0]
def ParseIs (o : Option Msg) (w : World) (e : Ending) (w' : World) : Prop :=
  e = .returned (.tuple #[.agg (o.getD ⟨0, 0, 0, 0, 0, 0, 0, 0, 0⟩).cells, .int .i64 (if o.isSome = true then 0 else 4)]) ∧ Below w.heap.size w w'
def zeroM : Array Value := #[.int .i64 0, .int .i64 0, .int .i64 0, .int .i64 0, .int .i64 0, .int .i64 0, .int .i64 0, .int .i64 0, .int .i64 0]
def msgOfW (ws : List (List UInt8)) : Msg := ⟨kindF ((ws[3]?).getD []), numAt ws 2, numAt ws 0, numAt ws 1, numAt ws 4, numAt ws 5, numAt ws 6, numAt ws 7, numAt ws 8⟩
def allNums (ws : List (List UInt8)) : Prop := ∀ j, j < 9 → j ≠ 3 → (numF ((ws[j]?).getD [])).isSome = true
theorem list_nine {α : Type} {l : List α} (h : l.length = 9) : ∃ a b c d e f g x y, l = [a, b, c, d, e, f, g, x, y] := by
  match l, h with
  | [a, b, c, d, e, f, g, x, y], _ => exact ⟨a, b, c, d, e, f, g, x, y, rfl⟩
theorem parseW_nine {ws : List (List UInt8)} (h : ws.length = 9) : (allNums ws → parseW ws = if rightM (msgOfW ws) = true then some (msgOfW ws) else none) ∧ (¬ allNums ws → parseW ws = none) := by
  obtain ⟨a, b, c, d, e, f, g, x, y, rfl⟩ := list_nine h
  have hm : msgW a b c d e f g x y = msgOfW [a, b, c, d, e, f, g, x, y] := rfl
  have hall : allNums [a, b, c, d, e, f, g, x, y] ↔ numsOk [a, b, c, e, f, g, x, y] = true := by
    simp only [numsOk, List.all_cons, List.all_nil, Bool.and_eq_true, and_true]
    constructor
    · intro hh
      exact ⟨hh 0 (by decide) (by decide), hh 1 (by decide) (by decide), hh 2 (by decide) (by decide), hh 4 (by decide) (by decide), hh 5 (by decide) (by decide), hh 6 (by decide) (by decide), hh 7 (by decide) (by decide), hh 8 (by decide) (by decide)⟩
    · rintro ⟨h0, h1, h2, h4, h5, h6, h7, h8⟩ j hj h3
      have : j = 0 ∨ j = 1 ∨ j = 2 ∨ j = 4 ∨ j = 5 ∨ j = 6 ∨ j = 7 ∨ j = 8 := by omega
      rcases this with rfl | rfl | rfl | rfl | rfl | rfl | rfl | rfl <;> assumption
  rw [hall, parseW, hm]
  constructor
  · intro hn; rw [hn]; simp
  · intro hn; rw [if_neg (fun hh => hn hh.1)]
theorem parseW_bad {ws : List (List UInt8)} (h : ∃ j, j < 9 ∧ j ≠ 3 ∧ numF ((ws[j]?).getD []) = none) : parseW ws = none := by
  by_cases h9 : ws.length = 9
  · refine (parseW_nine h9).2 fun hh => ?_
    obtain ⟨j, h1, h2, h3⟩ := h
    have := hh j h1 h2
    rw [h3] at this
    cases this
  · unfold parseW
    split
    · exact absurd rfl h9
    · rfl
theorem one_zeroM : zeroM.all (·.oneCell') = true := by simp [zeroM, Value.oneCell']
theorem parseW_len {ws : List (List UInt8)} (h : ws.length ≠ 9) : parseW ws = none := by
  unfold parseW
  split
  · exact absurd rfl h
  · rfl
set_option maxRecDepth 20000 in
set_option maxHeartbeats 8000000 in
theorem parse_short (l : List UInt8) (hl : l.length ≤ 100000) (w : World) (hm : MX w) (h9 : (splitW l).length ≠ 9) :
    Calls Tryd.prog 40 #[.string (strB l)] w (ParseIs (parseM l) w) := by
  have HP := Lib.hid (show parseM l = none from parseW_len h9)
  have HS := Lib.hid (split_any l hl (w.alloc (.cells zeroM 62)) (hm.below (n := 0) ((Below.refl _ _).alloc (Nat.le_refl _) _)))
  clear hm
  have h9' : (((splitW l).length : Int) != 9) = true := by simpa using (fun h => h9 (by omega))
  go_enter Tryd.func40, Tryd.ntmps40
  go_wp2_with fail
  refine HS.out.mono ?_
  rintro e w1 ⟨v, rfl, hrow, hb⟩
  have HB := Lib.hid (((Below.refl w.heap.size w).alloc (Nat.le_refl _) (.cells zeroM 62)).trans (hb.mono (by simp)))
  have HM := Lib.hid ((Blk.new w zeroM 62 w.heap.size rfl).below hb (by simp))
  clear hb
  obtain ⟨a, c, rfl⟩ : ∃ a c, v = .slice a (splitW l).length c := by
    rcases hrow with ⟨h1, h2⟩ | ⟨_, b, c, h1, _⟩
    · exact ⟨_, _, by rw [h1]; exact h2⟩
    · exact ⟨_, _, h1⟩
  clear hrow h9
  go_wp2_with (first
    | (refine load_blk (by rfl) 62 _ (by rfl) w.heap.size (by rfl) zeroM 62 HM.out _ Tryd.underlying62 rfl (by kernel_rfl) ?_)
    | (refine store_blk (by rfl) 62 _ _ (by rfl) w.heap.size (by rfl) zeroM zeroM 62 HM.out (by rfl) rfl (by kernel_rfl) one_zeroM ?_))
  refine bodyPost_ret (results_blk_tmp (cs := zeroM) rfl rfl (HM.out.setCells zeroM rfl) Tryd.underlying62 rfl (by kernel_rfl)) rfl ⟨by rw [HP.out]; rfl, Below.setCells _ _ _ HB.out (Nat.le_refl _)⟩
def ptrsC (M S C : Nat) : Array Value := #[.pointer (some ⟨M, 2, none⟩), .pointer (some ⟨M, 3, none⟩), .pointer (some ⟨S, 0, none⟩), .pointer none, .pointer (some ⟨M, 4, none⟩), .pointer (some ⟨M, 5, none⟩), .pointer (some ⟨M, 6, none⟩), .pointer (some ⟨M, 7, none⟩), .pointer (some ⟨C, 0, none⟩)]
def ptrK (M S C : Nat) : Nat → Option Addr
  | 0 => some ⟨M, 2, none⟩
  | 1 => some ⟨M, 3, none⟩
  | 2 => some ⟨S, 0, none⟩
  | 4 => some ⟨M, 4, none⟩
  | 5 => some ⟨M, 5, none⟩
  | 6 => some ⟨M, 6, none⟩
  | 7 => some ⟨M, 7, none⟩
  | 8 => some ⟨C, 0, none⟩
  | _ => none
theorem ptr_k (M S C k : Nat) (hk : k < 9) : ∀ W, (Instr.index 142 (.agg (ptrsC M S C)) (.int .i64 (k : Int))).run Tryd.prog W = .ok (.pointer (ptrK M S C k)) W := by
  have : k = 0 ∨ k = 1 ∨ k = 2 ∨ k = 3 ∨ k = 4 ∨ k = 5 ∨ k = 6 ∨ k = 7 ∨ k = 8 := by omega
  intro W
  rcases this with rfl | rfl | rfl | rfl | rfl | rfl | rfl | rfl | rfl <;> kernel_rfl
theorem ptr_at (M S C k : Nat) (z : Int) (hz : z = (k : Int)) (hk : k < 9) (a : Option Addr) (h : ptrK M S C k = a) : ∀ W, (Instr.index 142 (.agg (ptrsC M S C)) (.int .i64 z)).run Tryd.prog W = .ok (.pointer a) W := by
  subst hz h
  exact ptr_k M S C k hk
set_option maxRecDepth 20000 in
set_option maxHeartbeats 8000000 in
theorem parse_nine (l : List UInt8) (hl : l.length ≤ 100000) (w : World) (hm : MX w) (h9 : (splitW l).length = 9) :
    Calls Tryd.prog 40 #[.string (strB l)] w (ParseIs (parseM l) w) := by
  have HS := Lib.hid (split_any l hl (w.alloc (.cells zeroM 62)) (hm.below (n := 0) ((Below.refl _ _).alloc (Nat.le_refl _) _)))
  have HWL := Lib.hid (split_bytes l)
  have HPM := Lib.hid (show parseM l = parseW (splitW l) from rfl)
  clear hm
  unfold SplitIs at HS
  generalize splitW l = ws at HS h9 HWL HPM
  go_enter Tryd.func40, Tryd.ntmps40
  go_wp2_with fail
  refine HS.out.mono ?_
  rintro e w1 ⟨v, rfl, hrow, hb⟩
  have hM := (Blk.new w zeroM 62 w.heap.size rfl).below hb (by simp)
  have hB := (((Below.refl w.heap.size w).alloc (Nat.le_refl _) (.cells zeroM 62)).trans (hb.mono (by simp)))
  obtain ⟨rb, cap, rfl, hcap, hrb, hcells⟩ : ∃ b c, v = .slice (some ⟨b, 0, none⟩) 9 c ∧ 9 ≤ c ∧ b < w1.heap.size ∧ ∀ j, (h : j < ws.length) → w1.cell? ⟨b, j, none⟩ = some (.string (strB ws[j])) := by
    rcases hrow with ⟨h1, h2⟩ | ⟨_, b, c, h1, h2, h3, h4⟩
    · rw [h1] at h9; cases h9
    · exact ⟨b, c, by rw [h1, h9], by omega, h3, h4⟩
  have hne : rb ≠ w.heap.size := by
    rintro rfl
    have h1 := hcells 0 (by omega)
    have h2 : w1.cell? ⟨w.heap.size, 0, none⟩ = some (.int .i64 0) := hM.cell 0 rfl
    rw [h1] at h2
    cases h2
  have HPS := Lib.hid (show PS w rb w1.heap.size (w1.heap.size + 1) ws (cellsK ws 0) (pk 0 2 (numAt ws 2)) (pk 0 8 (numAt ws 8)) ((w1.alloc (.cells #[.int .i64 0] 2)).alloc (.cells #[.int .i64 0] 2)) from
    ⟨(hM.old _).old _, (Blk.new w1 #[.int .i64 0] 2 w1.heap.size rfl).old _, Blk.new _ _ _ _ (by simp), fun j hj => by rw [cell_old _ _ _ (by simp; omega), cell_old _ _ _ hrb]; exact hcells j hj, (hB.alloc hB.size _).alloc (by have := hB.size; simp; omega) _, hne, hM.lt, hrb, Nat.lt_succ_self _⟩)
  have hsz := hM.lt
  clear hb hM hB hrow hcells HS
  go_wp2_with fail
  replace HPS := Lib.hid (HPS.out.below ((Below.refl _ _).alloc (Nat.le_refl _) (.cells (ptrsC w.heap.size w1.heap.size (w1.heap.size + 1)) 142)))
  unfold ptrsC at HPS
  generalize ((w1.alloc (.cells #[.int .i64 0] 2)).alloc (.cells #[.int .i64 0] 2)).alloc _ = w2 at HPS ⊢
  generalize hS : w1.heap.size = S at HPS ⊢
  generalize hC : S + 1 = C at HPS ⊢
  have i0 := ptr_at w.heap.size S C 0 0 rfl (by decide) (some ⟨w.heap.size, 2, none⟩) rfl
  have i1 := ptr_at w.heap.size S C 1 1 rfl (by decide) (some ⟨w.heap.size, 3, none⟩) rfl
  have i2 := ptr_at w.heap.size S C 2 2 rfl (by decide) (some ⟨S, 0, none⟩) rfl
  have i3 := ptr_at w.heap.size S C 3 3 rfl (by decide) none rfl
  have i4 := ptr_at w.heap.size S C 4 4 rfl (by decide) (some ⟨w.heap.size, 4, none⟩) rfl
  have i5 := ptr_at w.heap.size S C 5 5 rfl (by decide) (some ⟨w.heap.size, 5, none⟩) rfl
  have i6 := ptr_at w.heap.size S C 6 6 rfl (by decide) (some ⟨w.heap.size, 6, none⟩) rfl
  have i7 := ptr_at w.heap.size S C 7 7 rfl (by decide) (some ⟨w.heap.size, 7, none⟩) rfl
  have i8 := ptr_at w.heap.size S C 8 8 rfl (by decide) (some ⟨C, 0, none⟩) rfl
  unfold ptrsC at i0 i1 i2 i3 i4 i5 i6 i7 i8
  go_loopw [26] (fun i wr => ∃ k : Nat, k ≤ 9 ∧ i = .int .i64 k ∧ PS w rb S C ws (cellsK ws k) (pk k 2 (numAt ws 2)) (pk k 8 (numAt ws 8)) wr ∧ Hid (∀ j, j < k → j ≠ 3 → ((numF ((ws[j]?).getD [])).isSome = true))) (fun i _ => 9 - (intOf i).toNat)
  case atStart => exact ⟨0, by omega, rfl, HPS.out, Lib.hid fun j h => absurd h (Nat.not_lt_zero _)⟩
  case round =>
    obtain ⟨k, hk, rfl, hps, HOK⟩ := hrel
    have HP := Lib.hid hps
    clear hps HPS
    by_cases hlt : k < 9
    · have : k = 0 ∨ k = 1 ∨ k = 2 ∨ k = 3 ∨ k = 4 ∨ k = 5 ∨ k = 6 ∨ k = 7 ∨ k = 8 := by omega
      rcases this with rfl | rfl | rfl | rfl | rfl | rfl | rfl | rfl | rfl
      · have ck : wr.cell? ⟨rb, 0, none⟩ = some (.string (strB (ws[0]'(by omega)))) := HP.out.row 0 (by omega)
        have HW := Lib.hid (wnumber_any (ws[0]'(by omega)) (Nat.le_trans (HWL.out _ (List.getElem_mem _)) hl) wr)
        have HX : Hid ((ws[0]?).getD [] = ws[0]'(by omega)) := Lib.hid (by rw [List.getElem?_eq_getElem (by omega)]; rfl)
        generalize ws[0]'(by omega) = x at ck HW HX
        go_wp2_with fail
        refine HW.out.mono ?_
        rintro e w3 ⟨rfl, hb3⟩
        have HP2 := Lib.hid (HP.out.below hb3)
        clear hb3 ck HP
        cases hn : numF x with
        | none =>
          have HPN := Lib.hid (show parseM l = none by rw [HPM.out]; exact parseW_bad ⟨0, by omega, by decide, by rw [HX.out]; exact hn⟩)
          clear hn
          go_wp2_with (refine store_blk (by rfl) 62 _ _ (by rfl) w.heap.size (by rfl) _ zeroM 62 HP2.out.m (by rfl) rfl (by kernel_rfl) one_zeroM ?_)
          refine bodyPost_ret (results_blk_tmp (cs := zeroM) rfl rfl (HP2.out.m.setCells zeroM rfl) Tryd.underlying62 rfl (by kernel_rfl)) rfl ⟨by rw [HPN.out]; rfl, Below.setCells _ _ _ HP2.out.bel (Nat.le_refl _)⟩
        | some n =>
          have HN := Lib.hid hn
          clear hn
          have ct := (HP2.out.m.cell 2 rfl)
          have ft := (HP2.out.m.free 2)
          have HP3 := Lib.hid (HP2.out.putM 2 (.int .i64 n))
          go_wp2_with fail
          go_roundw
          case rel =>
            have hA : numAt ws 0 = n := by unfold numAt; rw [HX.out, HN.out]; rfl
            refine ⟨0 + 1, by omega, by simp, ?_, Lib.hid fun j hj h3 => ?_⟩
            · simpa [cellsK, pk, hA] using HP3.out
            · by_cases e : j = 0
              · subst e; rw [HX.out, HN.out]; rfl
              · exact HOK.out j (by omega) h3
          case measure => first | (simp [intOf]; done) | (simp [intOf]; omega) | decide
      · have ck : wr.cell? ⟨rb, 1, none⟩ = some (.string (strB (ws[1]'(by omega)))) := HP.out.row 1 (by omega)
        have HW := Lib.hid (wnumber_any (ws[1]'(by omega)) (Nat.le_trans (HWL.out _ (List.getElem_mem _)) hl) wr)
        have HX : Hid ((ws[1]?).getD [] = ws[1]'(by omega)) := Lib.hid (by rw [List.getElem?_eq_getElem (by omega)]; rfl)
        generalize ws[1]'(by omega) = x at ck HW HX
        go_wp2_with fail
        refine HW.out.mono ?_
        rintro e w3 ⟨rfl, hb3⟩
        have HP2 := Lib.hid (HP.out.below hb3)
        clear hb3 ck HP
        cases hn : numF x with
        | none =>
          have HPN := Lib.hid (show parseM l = none by rw [HPM.out]; exact parseW_bad ⟨1, by omega, by decide, by rw [HX.out]; exact hn⟩)
          clear hn
          go_wp2_with (refine store_blk (by rfl) 62 _ _ (by rfl) w.heap.size (by rfl) _ zeroM 62 HP2.out.m (by rfl) rfl (by kernel_rfl) one_zeroM ?_)
          refine bodyPost_ret (results_blk_tmp (cs := zeroM) rfl rfl (HP2.out.m.setCells zeroM rfl) Tryd.underlying62 rfl (by kernel_rfl)) rfl ⟨by rw [HPN.out]; rfl, Below.setCells _ _ _ HP2.out.bel (Nat.le_refl _)⟩
        | some n =>
          have HN := Lib.hid hn
          clear hn
          have ct := (HP2.out.m.cell 3 rfl)
          have ft := (HP2.out.m.free 3)
          have HP3 := Lib.hid (HP2.out.putM 3 (.int .i64 n))
          go_wp2_with fail
          go_roundw
          case rel =>
            have hA : numAt ws 1 = n := by unfold numAt; rw [HX.out, HN.out]; rfl
            refine ⟨1 + 1, by omega, by simp, ?_, Lib.hid fun j hj h3 => ?_⟩
            · simpa [cellsK, pk, hA] using HP3.out
            · by_cases e : j = 1
              · subst e; rw [HX.out, HN.out]; rfl
              · exact HOK.out j (by omega) h3
          case measure => first | (simp [intOf]; done) | (simp [intOf]; omega) | decide
      · have ck : wr.cell? ⟨rb, 2, none⟩ = some (.string (strB (ws[2]'(by omega)))) := HP.out.row 2 (by omega)
        have HW := Lib.hid (wnumber_any (ws[2]'(by omega)) (Nat.le_trans (HWL.out _ (List.getElem_mem _)) hl) wr)
        have HX : Hid ((ws[2]?).getD [] = ws[2]'(by omega)) := Lib.hid (by rw [List.getElem?_eq_getElem (by omega)]; rfl)
        generalize ws[2]'(by omega) = x at ck HW HX
        go_wp2_with fail
        refine HW.out.mono ?_
        rintro e w3 ⟨rfl, hb3⟩
        have HP2 := Lib.hid (HP.out.below hb3)
        clear hb3 ck HP
        cases hn : numF x with
        | none =>
          have HPN := Lib.hid (show parseM l = none by rw [HPM.out]; exact parseW_bad ⟨2, by omega, by decide, by rw [HX.out]; exact hn⟩)
          clear hn
          go_wp2_with (refine store_blk (by rfl) 62 _ _ (by rfl) w.heap.size (by rfl) _ zeroM 62 HP2.out.m (by rfl) rfl (by kernel_rfl) one_zeroM ?_)
          refine bodyPost_ret (results_blk_tmp (cs := zeroM) rfl rfl (HP2.out.m.setCells zeroM rfl) Tryd.underlying62 rfl (by kernel_rfl)) rfl ⟨by rw [HPN.out]; rfl, Below.setCells _ _ _ HP2.out.bel (Nat.le_refl _)⟩
        | some n =>
          have HN := Lib.hid hn
          clear hn
          have ct := (HP2.out.s.cell 0 rfl)
          have ft := (HP2.out.s.free 0)
          have HP3 := Lib.hid (HP2.out.putS n)
          go_wp2_with fail
          go_roundw
          case rel =>
            have hA : numAt ws 2 = n := by unfold numAt; rw [HX.out, HN.out]; rfl
            refine ⟨2 + 1, by omega, by simp, ?_, Lib.hid fun j hj h3 => ?_⟩
            · simpa [cellsK, pk, hA] using HP3.out
            · by_cases e : j = 2
              · subst e; rw [HX.out, HN.out]; rfl
              · exact HOK.out j (by omega) h3
          case measure => first | (simp [intOf]; done) | (simp [intOf]; omega) | decide
      · have ck : wr.cell? ⟨rb, 3, none⟩ = some (.string (strB (ws[3]'(by omega)))) := HP.out.row 3 (by omega)
        have HX : Hid ((ws[3]?).getD [] = ws[3]'(by omega)) := Lib.hid (by rw [List.getElem?_eq_getElem (by omega)]; rfl)
        generalize ws[3]'(by omega) = x at ck HX
        go_wp2_with fail
        refine (kindOf_any x wr).mono ?_
        rintro e w3 ⟨rfl, hb3⟩
        have HP2 := Lib.hid (HP.out.below hb3)
        clear hb3 ck HP
        have ct := (HP2.out.m.cell 0 rfl)
        have ft := (HP2.out.m.free 0)
        have HP3 := Lib.hid (HP2.out.putM 0 (.int .i64 (kindF x)))
        go_wp2_with fail
        go_roundw
        case rel =>
          refine ⟨3 + 1, by omega, by simp, ?_, Lib.hid fun j hj h3 => ?_⟩
          · simpa [cellsK, pk, HX.out] using HP3.out
          · exact HOK.out j (by omega) h3
        case measure => first | (simp [intOf]; done) | (simp [intOf]; omega) | decide
      · have ck : wr.cell? ⟨rb, 4, none⟩ = some (.string (strB (ws[4]'(by omega)))) := HP.out.row 4 (by omega)
        have HW := Lib.hid (wnumber_any (ws[4]'(by omega)) (Nat.le_trans (HWL.out _ (List.getElem_mem _)) hl) wr)
        have HX : Hid ((ws[4]?).getD [] = ws[4]'(by omega)) := Lib.hid (by rw [List.getElem?_eq_getElem (by omega)]; rfl)
        generalize ws[4]'(by omega) = x at ck HW HX
        go_wp2_with fail
        refine HW.out.mono ?_
        rintro e w3 ⟨rfl, hb3⟩
        have HP2 := Lib.hid (HP.out.below hb3)
        clear hb3 ck HP
        cases hn : numF x with
        | none =>
          have HPN := Lib.hid (show parseM l = none by rw [HPM.out]; exact parseW_bad ⟨4, by omega, by decide, by rw [HX.out]; exact hn⟩)
          clear hn
          go_wp2_with (refine store_blk (by rfl) 62 _ _ (by rfl) w.heap.size (by rfl) _ zeroM 62 HP2.out.m (by rfl) rfl (by kernel_rfl) one_zeroM ?_)
          refine bodyPost_ret (results_blk_tmp (cs := zeroM) rfl rfl (HP2.out.m.setCells zeroM rfl) Tryd.underlying62 rfl (by kernel_rfl)) rfl ⟨by rw [HPN.out]; rfl, Below.setCells _ _ _ HP2.out.bel (Nat.le_refl _)⟩
        | some n =>
          have HN := Lib.hid hn
          clear hn
          have ct := (HP2.out.m.cell 4 rfl)
          have ft := (HP2.out.m.free 4)
          have HP3 := Lib.hid (HP2.out.putM 4 (.int .i64 n))
          go_wp2_with fail
          go_roundw
          case rel =>
            have hA : numAt ws 4 = n := by unfold numAt; rw [HX.out, HN.out]; rfl
            refine ⟨4 + 1, by omega, by simp, ?_, Lib.hid fun j hj h3 => ?_⟩
            · simpa [cellsK, pk, hA] using HP3.out
            · by_cases e : j = 4
              · subst e; rw [HX.out, HN.out]; rfl
              · exact HOK.out j (by omega) h3
          case measure => first | (simp [intOf]; done) | (simp [intOf]; omega) | decide
      · have ck : wr.cell? ⟨rb, 5, none⟩ = some (.string (strB (ws[5]'(by omega)))) := HP.out.row 5 (by omega)
        have HW := Lib.hid (wnumber_any (ws[5]'(by omega)) (Nat.le_trans (HWL.out _ (List.getElem_mem _)) hl) wr)
        have HX : Hid ((ws[5]?).getD [] = ws[5]'(by omega)) := Lib.hid (by rw [List.getElem?_eq_getElem (by omega)]; rfl)
        generalize ws[5]'(by omega) = x at ck HW HX
        go_wp2_with fail
        refine HW.out.mono ?_
        rintro e w3 ⟨rfl, hb3⟩
        have HP2 := Lib.hid (HP.out.below hb3)
        clear hb3 ck HP
        cases hn : numF x with
        | none =>
          have HPN := Lib.hid (show parseM l = none by rw [HPM.out]; exact parseW_bad ⟨5, by omega, by decide, by rw [HX.out]; exact hn⟩)
          clear hn
          go_wp2_with (refine store_blk (by rfl) 62 _ _ (by rfl) w.heap.size (by rfl) _ zeroM 62 HP2.out.m (by rfl) rfl (by kernel_rfl) one_zeroM ?_)
          refine bodyPost_ret (results_blk_tmp (cs := zeroM) rfl rfl (HP2.out.m.setCells zeroM rfl) Tryd.underlying62 rfl (by kernel_rfl)) rfl ⟨by rw [HPN.out]; rfl, Below.setCells _ _ _ HP2.out.bel (Nat.le_refl _)⟩
        | some n =>
          have HN := Lib.hid hn
          clear hn
          have ct := (HP2.out.m.cell 5 rfl)
          have ft := (HP2.out.m.free 5)
          have HP3 := Lib.hid (HP2.out.putM 5 (.int .i64 n))
          go_wp2_with fail
          go_roundw
          case rel =>
            have hA : numAt ws 5 = n := by unfold numAt; rw [HX.out, HN.out]; rfl
            refine ⟨5 + 1, by omega, by simp, ?_, Lib.hid fun j hj h3 => ?_⟩
            · simpa [cellsK, pk, hA] using HP3.out
            · by_cases e : j = 5
              · subst e; rw [HX.out, HN.out]; rfl
              · exact HOK.out j (by omega) h3
          case measure => first | (simp [intOf]; done) | (simp [intOf]; omega) | decide
      · have ck : wr.cell? ⟨rb, 6, none⟩ = some (.string (strB (ws[6]'(by omega)))) := HP.out.row 6 (by omega)
        have HW := Lib.hid (wnumber_any (ws[6]'(by omega)) (Nat.le_trans (HWL.out _ (List.getElem_mem _)) hl) wr)
        have HX : Hid ((ws[6]?).getD [] = ws[6]'(by omega)) := Lib.hid (by rw [List.getElem?_eq_getElem (by omega)]; rfl)
        generalize ws[6]'(by omega) = x at ck HW HX
        go_wp2_with fail
        refine HW.out.mono ?_
        rintro e w3 ⟨rfl, hb3⟩
        have HP2 := Lib.hid (HP.out.below hb3)
        clear hb3 ck HP
        cases hn : numF x with
        | none =>
          have HPN := Lib.hid (show parseM l = none by rw [HPM.out]; exact parseW_bad ⟨6, by omega, by decide, by rw [HX.out]; exact hn⟩)
          clear hn
          go_wp2_with (refine store_blk (by rfl) 62 _ _ (by rfl) w.heap.size (by rfl) _ zeroM 62 HP2.out.m (by rfl) rfl (by kernel_rfl) one_zeroM ?_)
          refine bodyPost_ret (results_blk_tmp (cs := zeroM) rfl rfl (HP2.out.m.setCells zeroM rfl) Tryd.underlying62 rfl (by kernel_rfl)) rfl ⟨by rw [HPN.out]; rfl, Below.setCells _ _ _ HP2.out.bel (Nat.le_refl _)⟩
        | some n =>
          have HN := Lib.hid hn
          clear hn
          have ct := (HP2.out.m.cell 6 rfl)
          have ft := (HP2.out.m.free 6)
          have HP3 := Lib.hid (HP2.out.putM 6 (.int .i64 n))
          go_wp2_with fail
          go_roundw
          case rel =>
            have hA : numAt ws 6 = n := by unfold numAt; rw [HX.out, HN.out]; rfl
            refine ⟨6 + 1, by omega, by simp, ?_, Lib.hid fun j hj h3 => ?_⟩
            · simpa [cellsK, pk, hA] using HP3.out
            · by_cases e : j = 6
              · subst e; rw [HX.out, HN.out]; rfl
              · exact HOK.out j (by omega) h3
          case measure => first | (simp [intOf]; done) | (simp [intOf]; omega) | decide
      · have ck : wr.cell? ⟨rb, 7, none⟩ = some (.string (strB (ws[7]'(by omega)))) := HP.out.row 7 (by omega)
        have HW := Lib.hid (wnumber_any (ws[7]'(by omega)) (Nat.le_trans (HWL.out _ (List.getElem_mem _)) hl) wr)
        have HX : Hid ((ws[7]?).getD [] = ws[7]'(by omega)) := Lib.hid (by rw [List.getElem?_eq_getElem (by omega)]; rfl)
        generalize ws[7]'(by omega) = x at ck HW HX
        go_wp2_with fail
        refine HW.out.mono ?_
        rintro e w3 ⟨rfl, hb3⟩
        have HP2 := Lib.hid (HP.out.below hb3)
        clear hb3 ck HP
        cases hn : numF x with
        | none =>
          have HPN := Lib.hid (show parseM l = none by rw [HPM.out]; exact parseW_bad ⟨7, by omega, by decide, by rw [HX.out]; exact hn⟩)
          clear hn
          go_wp2_with (refine store_blk (by rfl) 62 _ _ (by rfl) w.heap.size (by rfl) _ zeroM 62 HP2.out.m (by rfl) rfl (by kernel_rfl) one_zeroM ?_)
          refine bodyPost_ret (results_blk_tmp (cs := zeroM) rfl rfl (HP2.out.m.setCells zeroM rfl) Tryd.underlying62 rfl (by kernel_rfl)) rfl ⟨by rw [HPN.out]; rfl, Below.setCells _ _ _ HP2.out.bel (Nat.le_refl _)⟩
        | some n =>
          have HN := Lib.hid hn
          clear hn
          have ct := (HP2.out.m.cell 7 rfl)
          have ft := (HP2.out.m.free 7)
          have HP3 := Lib.hid (HP2.out.putM 7 (.int .i64 n))
          go_wp2_with fail
          go_roundw
          case rel =>
            have hA : numAt ws 7 = n := by unfold numAt; rw [HX.out, HN.out]; rfl
            refine ⟨7 + 1, by omega, by simp, ?_, Lib.hid fun j hj h3 => ?_⟩
            · simpa [cellsK, pk, hA] using HP3.out
            · by_cases e : j = 7
              · subst e; rw [HX.out, HN.out]; rfl
              · exact HOK.out j (by omega) h3
          case measure => first | (simp [intOf]; done) | (simp [intOf]; omega) | decide
      · have ck : wr.cell? ⟨rb, 8, none⟩ = some (.string (strB (ws[8]'(by omega)))) := HP.out.row 8 (by omega)
        have HW := Lib.hid (wnumber_any (ws[8]'(by omega)) (Nat.le_trans (HWL.out _ (List.getElem_mem _)) hl) wr)
        have HX : Hid ((ws[8]?).getD [] = ws[8]'(by omega)) := Lib.hid (by rw [List.getElem?_eq_getElem (by omega)]; rfl)
        generalize ws[8]'(by omega) = x at ck HW HX
        go_wp2_with fail
        refine HW.out.mono ?_
        rintro e w3 ⟨rfl, hb3⟩
        have HP2 := Lib.hid (HP.out.below hb3)
        clear hb3 ck HP
        cases hn : numF x with
        | none =>
          have HPN := Lib.hid (show parseM l = none by rw [HPM.out]; exact parseW_bad ⟨8, by omega, by decide, by rw [HX.out]; exact hn⟩)
          clear hn
          go_wp2_with (refine store_blk (by rfl) 62 _ _ (by rfl) w.heap.size (by rfl) _ zeroM 62 HP2.out.m (by rfl) rfl (by kernel_rfl) one_zeroM ?_)
          refine bodyPost_ret (results_blk_tmp (cs := zeroM) rfl rfl (HP2.out.m.setCells zeroM rfl) Tryd.underlying62 rfl (by kernel_rfl)) rfl ⟨by rw [HPN.out]; rfl, Below.setCells _ _ _ HP2.out.bel (Nat.le_refl _)⟩
        | some n =>
          have HN := Lib.hid hn
          clear hn
          have ct := (HP2.out.c.cell 0 rfl)
          have ft := (HP2.out.c.free 0)
          have HP3 := Lib.hid (HP2.out.putC n)
          go_wp2_with fail
          go_roundw
          case rel =>
            have hA : numAt ws 8 = n := by unfold numAt; rw [HX.out, HN.out]; rfl
            refine ⟨8 + 1, by omega, by simp, ?_, Lib.hid fun j hj h3 => ?_⟩
            · simpa [cellsK, pk, hA] using HP3.out
            · by_cases e : j = 8
              · subst e; rw [HX.out, HN.out]; rfl
              · exact HOK.out j (by omega) h3
          case measure => first | (simp [intOf]; done) | (simp [intOf]; omega) | decide
    · obtain rfl : k = 9 := by omega
      have HALL := Lib.hid (show allNums ws from HOK.out)
      have HMSG := Lib.hid (show PS w rb S C ws (msgOfW ws).cells (numAt ws 2) (numAt ws 8) ((wr.setCell ⟨w.heap.size, 1, none⟩ (.int .i64 (numAt ws 2))).setCell ⟨w.heap.size, 8, none⟩ (.int .i64 (numAt ws 8))) from (HP.out.putM 1 _).putM 8 _)
      have cs : wr.cell? ⟨S, 0, none⟩ = some (.int .i64 (numAt ws 2)) := HP.out.s.cell 0 rfl
      have cc : wr.cell? ⟨C, 0, none⟩ = some (.int .i64 (numAt ws 8)) := HP.out.c.cell 0 rfl
      have cm1 : wr.cell? ⟨w.heap.size, 1, none⟩ = some (.int .i64 0) := HP.out.m.cell 1 rfl
      have cm8 : wr.cell? ⟨w.heap.size, 8, none⟩ = some (.int .i64 0) := HP.out.m.cell 8 rfl
      have fm1 := HP.out.m.free 1
      have fm8 := HP.out.m.free 8
      have nS : ¬ S = w.heap.size := by have := HP.out.ms; omega
      have nC : ¬ C = w.heap.size := by have := HP.out.ms; have := HP.out.sc; omega
      have HPW := Lib.hid ((parseW_nine h9).1 HALL.out)
      clear i0 i1 i2 i3 i4 i5 i6 i7 i8 HOK HP hlt hk
      generalize msgOfW ws = m at HMSG HPW
      generalize numAt ws 2 = n2 at HMSG cs
      generalize numAt ws 8 = n8 at HMSG cc
      go_upto_region 17 with fail
      generalize (wr.setCell ⟨w.heap.size, 1, none⟩ (.int .i64 n2)).setCell ⟨w.heap.size, 8, none⟩ (.int .i64 n8) = W5 at HMSG ⊢
      clear cs cc cm1 cm8 fm1 fm8
      go_wp2_with (refine load_blk (by rfl) 62 _ (by rfl) w.heap.size (by rfl) m.cells 62 HMSG.out.m _ Tryd.underlying62 rfl (by kernel_rfl) ?_)
      refine (mright_any m W5).mono ?_
      rintro e w6 ⟨rfl, hb6⟩
      have HM6 := Lib.hid (HMSG.out.below hb6)
      clear hb6 HMSG
      cases hr : rightM m with
      | false =>
        have HPN := Lib.hid (show parseM l = none by rw [HPM.out, HPW.out, hr]; rfl)
        clear hr
        go_wp2_with (refine store_blk (by rfl) 62 _ _ (by rfl) w.heap.size (by rfl) _ zeroM 62 HM6.out.m (by rfl) rfl (by kernel_rfl) one_zeroM ?_)
        refine bodyPost_ret (results_blk_tmp (cs := zeroM) rfl rfl (HM6.out.m.setCells zeroM rfl) Tryd.underlying62 rfl (by kernel_rfl)) rfl ⟨by rw [HPN.out]; rfl, Below.setCells _ _ _ HM6.out.bel (Nat.le_refl _)⟩
      | true =>
        have HPN := Lib.hid (show parseM l = some m by rw [HPM.out, HPW.out, hr]; rfl)
        clear hr
        go_wp2_with (first
          | (refine load_blk (by rfl) 62 _ (by rfl) w.heap.size (by rfl) m.cells 62 HM6.out.m _ Tryd.underlying62 rfl (by kernel_rfl) ?_)
          | (refine store_blk (by rfl) 62 _ _ (by rfl) w.heap.size (by rfl) _ m.cells 62 HM6.out.m (by rfl) rfl (by kernel_rfl) (one_msg m) ?_))
        refine bodyPost_ret (results_blk_tmp (cs := m.cells) rfl rfl (HM6.out.m.setCells m.cells rfl) Tryd.underlying62 rfl (by kernel_rfl)) rfl ⟨by rw [HPN.out]; rfl, Below.setCells _ _ _ HM6.out.bel (Nat.le_refl _)⟩
theorem repParse_any (l : List UInt8) (hl : l.length ≤ 100000) (w : World) (hm : MX w) : Calls Tryd.prog 40 #[.string (strB l)] w (ParseIs (parseM l) w) := by
  by_cases h9 : (splitW l).length = 9
  · exact parse_nine l hl w hm h9
  · exact parse_short l hl w hm h9
end Go.Proofs.YtmkcooamgojbpaaDoor.Reports
