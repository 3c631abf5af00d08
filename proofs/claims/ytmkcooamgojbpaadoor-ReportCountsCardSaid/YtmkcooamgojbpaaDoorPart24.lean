/- Parts of the proof: RepNum, SplitW, NumberW, RDecimal, MsgRight, RepWord, KindOf, RepLine, RepParse, RText, RepWordR. -/
import Derived.Test.YtmkcooamgojbpaaDoorPart22
import Derived.Test.YtmkcooamgojbpaaDoorPart23
import Derived.Test.YtmkcooamgojbpaaDoorPart19
import Derived.Deep.DeepCutAuto
import Derived.Deep.CutBlock
import Derived.Test.YtmkcooamgojbpaaDoorPart6

/- report.number: a number's text, by a step's line. -/
namespace Go.Proofs.YtmkcooamgojbpaaDoor.Lines
open Go.RowKit Go.Proofs.YtmkcooamgojbpaaDoor.Kit Go.Proofs.YtmkcooamgojbpaaDoor.Blk Go.Proofs.YtmkcooamgojbpaaDoor.Dec Go.Proofs.YtmkcooamgojbpaaDoor.Words Go.Proofs.YtmkcooamgojbpaaDoor.Octets
attribute [local go_sem ↓] Go.wp_at_zero Go.wp_at_succ
set_option linter.unusedVariables false

/-- The library's variable MaxLen holds some integer. -/
def MX (w : World) : Prop := ∃ m, w.cell? ⟨0, 0, none⟩ = some (.int .i64 m)
theorem MX.below {w w' : World} {n : Nat} (h : MX w) (hb : Below w.heap.size w w') : MX w' := by
  obtain ⟨m, hm⟩ := h
  exact ⟨m, by rw [hb.cell (p := ⟨0, 0, none⟩) (World.block_lt_of_cell? _ _ hm)]; exact hm⟩
theorem cut_at {b : UInt8} {w : List UInt8} (h : b ∉ w) (m : List UInt8) : Lib.cut (w ++ b :: m) [b] = (w, m, true) := by
  unfold Lib.cut
  rw [index_app h]
  simp
theorem cut_none {b : UInt8} {l : List UInt8} (h : b ∉ l) : Lib.cut l [b] = (l, [], false) := by
  unfold Lib.cut
  rw [index_miss h]
  simp
theorem tick_free : (32 : UInt8) ∉ ([116, 105, 99, 107] : List UInt8) := by decide
/-- strings.Cut at one byte. -/
theorem cut_any (l : List UInt8) (b : UInt8) (w : World) (hm : MX w) (hl : l.length ≤ 100000) :
    Calls Tryd.prog 64 #[.string (strB l), .string ⟨#[b]⟩] w fun e w' => e = .returned (.tuple #[.string (strB (Lib.cut l [b]).1), .string (strB (Lib.cut l [b]).2.1), .bool (Lib.cut l [b]).2.2]) ∧ ∃ n, w' = w.drewN n := by
  obtain ⟨m, hm⟩ := hm
  have h := Shelf.strings_Cut (strB l) ⟨#[b]⟩ m w (by rw [strB_size]; omega) hm
  rw [strB_list, show (⟨#[b]⟩ : ByteArray).data.toList = [b] from rfl] at h
  exact h
set_option maxRecDepth 20000 in
theorem number_any (n : Int) (h0 : -9223372036854775808 ≤ n) (h1 : n ≤ 9223372036854775807) (w : World) (hm : MX w) :
    Calls Tryd.prog 100 #[.int .i64 n] w fun e w' => e = .returned (.string (strB (decB n))) ∧ Below w.heap.size w w' := by
  have HM := Lib.hid hm
  have hlen := dec_len h0 h1
  clear hm
  go_enter Tryd.func100, Tryd.ntmps100
  go_wp2_with fail
  refine (line_tick n h0 h1 w).mono ?_
  rintro e w1 ⟨rfl, hb⟩
  have HB := Lib.hid hb
  have HC := Lib.hid (cut_any ([116, 105, 99, 107] ++ 32 :: decB n) 32 w1 (HM.out.below (n := 0) hb) (by simp; omega))
  rw [cut_at tick_free] at HC
  clear hb
  go_wp2_with fail
  refine HC.out.mono ?_
  rintro e w2 ⟨rfl, k, rfl⟩
  have HB2 := Lib.hid (HB.out.drewN k)
  go_wp2_with fail
  go_ret
  exact ⟨rfl, HB2.out⟩
end Go.Proofs.YtmkcooamgojbpaaDoor.Lines

/- words.Split and words.Number. -/
namespace Go.Proofs.YtmkcooamgojbpaaDoor.Lines
open Go.RowKit Go.Proofs.YtmkcooamgojbpaaDoor.Kit Go.Proofs.YtmkcooamgojbpaaDoor.Blk Go.Proofs.YtmkcooamgojbpaaDoor.Dec Go.Proofs.YtmkcooamgojbpaaDoor.Words Go.Proofs.YtmkcooamgojbpaaDoor.Octets
attribute [local go_sem ↓] Go.wp_at_zero Go.wp_at_succ
set_option linter.unusedVariables false

/-- Words in memory: a slice, and its cells. -/
def StrRow (v : Value) (ws : List (List UInt8)) (W : World) : Prop :=
  (ws = [] ∧ v = .slice none 0 0) ∨ (0 < ws.length ∧ ∃ b c, v = .slice (some ⟨b, 0, none⟩) ws.length c ∧ ws.length ≤ c ∧ b < W.heap.size ∧ ∀ j, (h : j < ws.length) → W.cell? ⟨b, j, none⟩ = some (.string (strB ws[j])))
theorem StrRow.below {v : Value} {ws : List (List UInt8)} {W W' : World} (h : StrRow v ws W) (hb : Below W.heap.size W W') : StrRow v ws W' := by
  rcases h with h | ⟨h0, b, c, h1, h2, h3, h4⟩
  · exact .inl h
  · exact .inr ⟨h0, b, c, h1, h2, Nat.lt_of_lt_of_le h3 hb.size, fun j hj => by rw [hb.cell (p := ⟨b, j, none⟩) h3]; exact h4 j hj⟩
def SplitIs (l : List UInt8) (w : World) (e : Ending) (w' : World) : Prop := ∃ v, e = .returned v ∧ StrRow v (splitW l) w' ∧ Below w.heap.size w w'
theorem of_data {xs : List ByteArray} {ws : List (List UInt8)} (h : xs.map (·.data.toList) = ws) : xs = ws.map strB := by
  rw [← h, List.map_map]
  have : strB ∘ (fun x : ByteArray => x.data.toList) = id := funext fun x => by simp [strB]
  rw [this, List.map_id]
theorem count32 (l : List UInt8) : Lib.countB (strB l) ⟨#[32]⟩ = l.count 32 := by
  show Lib.count (strB l).data.toList [32] = _
  rw [strB_list, Lib.count_one]
theorem split_pieces (l : List UInt8) : Lib.splitB ⟨#[32]⟩ 0 (Lib.countB (strB l) ⟨#[32]⟩) (strB l) = (cutW 32 l).map strB := by
  apply of_data
  rw [Lib.splitB_data, strB_list, count32]
  exact splitK_cut 32 _ l (Nat.le_refl _)
theorem split_any (l : List UInt8) (hl : l.length ≤ 100000) (w : World) (hm : MX w) :
    Calls Tryd.prog 31 #[.string (strB l)] w (SplitIs l w) := by
  by_cases h : l = []
  · subst h
    have b1 : (strB []).toList = [] := by rw [ByteArray.toList_eq, strB_list]
    go_enter Tryd.func31, Tryd.ntmps31
    go_wp2_with fail
    go_ret
    exact ⟨_, rfl, .inl ⟨rfl, rfl⟩, Below.refl _ _⟩
  · obtain ⟨m, hm⟩ := hm
    have HS := Lib.hid (show SplitIs l w (.returned (.slice (some ⟨w.heap.size, 0, none⟩) (Lib.countB (strB l) ⟨#[32]⟩ + 1) (Lib.countB (strB l) ⟨#[32]⟩ + 1))) (w.alloc (.cells ((Lib.splitB ⟨#[32]⟩ 0 (Lib.countB (strB l) ⟨#[32]⟩) (strB l)).map Value.string).toArray 9)) from by
      have e1 : Lib.countB (strB l) ⟨#[32]⟩ + 1 = (cutW 32 l).length := by rw [cut_len, count32]
      have e2 : splitW l = cutW 32 l := by unfold splitW; rw [if_neg h]
      refine ⟨_, rfl, .inr ⟨?_, w.heap.size, (cutW 32 l).length, ?_, ?_, by simp, fun j hj => ?_⟩, (Below.refl _ _).alloc (Nat.le_refl _) _⟩
      · rw [e2]; exact List.length_pos_iff.2 (cutW_ne _ _)
      · rw [e1, e2]
      · rw [e2]; exact Nat.le_refl _
      · rw [e2] at hj
        refine cell_new _ _ _ _ _ _ rfl ?_
        rw [split_pieces]
        simp [hj, e2])
    have HC := Lib.hid (Shelf.strings_Split (strB l) ⟨#[32]⟩ m w (by rw [strB_size]; omega) hm (by decide))
    have b1 : ((strB l).toList == []) = false := by rw [ByteArray.toList_eq, strB_list]; simpa using h
    have b2 : ((strB l).toList.isEmpty) = false := by rw [ByteArray.toList_eq, strB_list]; simpa using h
    clear hm
    go_enter Tryd.func31, Tryd.ntmps31
    go_wp2_with fail
    refine HC.out.mono ?_
    rintro e w1 ⟨rfl, rfl⟩
    go_wp2_with fail
    go_ret
    exact HS.out
end Go.Proofs.YtmkcooamgojbpaaDoor.Lines

/- words.Number. -/
namespace Go.Proofs.YtmkcooamgojbpaaDoor.Lines
open Go.RowKit Go.Proofs.YtmkcooamgojbpaaDoor.Kit Go.Proofs.YtmkcooamgojbpaaDoor.Blk Go.Proofs.YtmkcooamgojbpaaDoor.Dec Go.Proofs.YtmkcooamgojbpaaDoor.Words Go.Proofs.YtmkcooamgojbpaaDoor.Octets
attribute [local go_sem ↓] Go.wp_at_zero Go.wp_at_succ
set_option linter.unusedVariables false

theorem trim_part (l : List UInt8) : Part l (Lib.hasPrefix l [45]) (Lib.trimPrefix l [45]) := by
  cases l with
  | nil => exact ⟨fun h => (by cases h), fun _ => ⟨rfl, by simp⟩⟩
  | cons c l =>
    by_cases h : c = 45
    · subst h
      exact ⟨fun _ => by simp [Lib.trimPrefix, Lib.hasPrefix, List.isPrefixOf], fun h => by simp [Lib.hasPrefix, List.isPrefixOf] at h⟩
    · have h2 : ((45 : UInt8) == c) = false := by simpa using Ne.symm h
      exact ⟨fun h3 => by simp [Lib.hasPrefix, List.isPrefixOf, h2] at h3, fun _ => ⟨by simp [Lib.trimPrefix, Lib.hasPrefix, List.isPrefixOf, h2], by simp [h]⟩⟩
def NumIs (o : Option Int) (w : World) (e : Ending) (w' : World) : Prop := e = .returned (.tuple #[.int .i64 (o.getD 0), .bool o.isSome]) ∧ Below w.heap.size w w'
/-- The bytes of a string, in a block of their own. -/
theorem bytes_of (s : List UInt8) (w : World) : ∃ c W, (convert 9 40 (.string (strB s))).run Tryd.prog w = .ok (.slice (some ⟨w.heap.size, 0, none⟩) s.length c) W ∧ Below w.heap.size w W ∧ ∀ j, (h : j < s.length) → W.cell? ⟨w.heap.size, j, none⟩ = some (.int .u8 (s[j].toNat : Int)) := by
  have h := run_bytes_of_string (P := Tryd.prog) w 9 40 5 (strB s) Tryd.underlying9 Tryd.underlying40 Tryd.underlying5
  rw [strB_size] at h
  refine ⟨_, _, h, (Below.refl _ _).drew.alloc (Nat.le_refl _) _, fun j hj => ?_⟩
  have := World.cell?_alloc_mark w.drew (bytesRow (strB s) (grownCap w s.length 0 5)) 5 ((bytesRow (strB s) (grownCap w s.length 0 5)).size, (bytesRow (strB s) (grownCap w s.length 0 5)).size + 1) j
  rw [show w.drew.heap.size = w.heap.size from rfl] at this
  rw [this, bytesRow_at _ _ _ (by simpa [strB] using hj)]
  simp [strB]
theorem strB_at (l : List UInt8) (k : Nat) (h : k < (strB l).size) (h' : k < l.length) : (strB l)[k]'h = l[k] := by
  show (strB l).data[k] = l[k]
  simp [strB]
/-- What stands ahead of the loop lets it begin. -/
structure Begins (m : Bool) (s : List UInt8) : Prop where
  ne : s ≠ []
  zero : 1 < s.length → s.head? ≠ some 48
  minus : m = true → s ≠ [48]
set_option maxRecDepth 20000 in
set_option maxHeartbeats 8000000 in
theorem number_loop (l s : List UInt8) (m : Bool) (hp : Part l m s) (hl : s.length ≤ 100000) (w : World) (hbg : Begins m s)
    (hc : Calls Tryd.prog 82 #[.string (strB l), .string ⟨#[45]⟩] w fun e w' => e = .returned (.tuple #[.string (strB s), .bool m]) ∧ w' = w) :
    Calls Tryd.prog 29 #[.string (strB l)] w (NumIs (numF l) w) := by
  have HC := Lib.hid hc
  have HP := Lib.hid hp
  have HBG := Lib.hid hbg
  have z1 : (strB s).size = s.length := strB_size s
  have b1 : ((strB s).toList == []) = false := by rw [ByteArray.toList_eq, strB_list]; simpa using hbg.ne
  have b2 : ((strB s).toList.isEmpty) = false := by rw [ByteArray.toList_eq, strB_list]; simpa using hbg.ne
  have b3 : m = true → ((strB s).toList == [48]) = false := fun h => by rw [ByteArray.toList_eq, strB_list]; simpa using hbg.minus h
  have hpos : 0 < s.length := List.length_pos_iff.2 hbg.ne
  have z3 : 1 < s.length → ∀ h, ((((strB s)[0]'h).toNat : Int) == 48) = false := fun h1 h => by
    rw [strB_at s 0 h hpos, beq_eq_false_iff_ne]
    intro e
    have : s[0] = 48 := UInt8.toNat_inj.1 (by show s[0].toNat = 48; omega)
    refine hbg.zero h1 ?_
    rw [List.head?_eq_getElem?, List.getElem?_eq_getElem hpos]
    exact congrArg some this
  clear hc hp hbg
  by_cases h1 : 1 < s.length
  · replace z3 := z3 h1
    have g1 : (1 : Int) < (s.length : Int) := by omega
    cases m with
    | true =>
      replace b3 := b3 rfl
      go_enter Tryd.func29, Tryd.ntmps29
      go_wp2_with fail
      refine HC.out.mono ?_
      rintro e w1 ⟨rfl, rfl⟩
      obtain ⟨cc, W, hcv, hbw, hcells⟩ := bytes_of s w1
      have HBW := Lib.hid hbw
      have HCE := Lib.hid hcells
      clear hbw hcells
      go_wp2_with fail
      go_loop [2, 36] (fun x i => ∃ k : Nat, k ≤ s.length ∧ i = .int .i64 k ∧ x = .int .i64 (-(valN (s.take k) : Int)) ∧ Hid (DigsOk (s.take k))) (fun _ i => s.length - (intOf i).toNat)
      case atStart => exact ⟨0, by omega, rfl, by simp [valN], Lib.hid good_nil⟩
      case round =>
        obtain ⟨k, hk, rfl, rfl, HG⟩ := hrel
        by_cases hlt : k < s.length
        · have ck : W.cell? ⟨w1.heap.size, k, none⟩ = some (.int .u8 (s[k].toNat : Int)) := HCE.out k hlt
          have hc255 : s[k].toNat ≤ 255 := by have := s[k].toNat_lt; omega
          have HND := Lib.hid (fun h => numF_bad HP.out (good_not_dig hlt h))
          have HNB := Lib.hid (fun h => numF_bad HP.out (good_not_big hlt h))
          have HNX := Lib.hid (fun h1 h2 h3 => good_next hlt HG.out h1 h2 h3)
          have HVN := Lib.hid (val_next hlt)
          have hvb : valN (s.take k) ≤ 9223372036854775808 := HG.out.2
          generalize hv : valN (s.take k) = v at hvb HND HNB HNX HVN
          have HV := Lib.hid hv
          clear hv
          generalize s[k].toNat = c at ck hc255 HND HNB HNX HVN
          have hlt' : (k : Int) < (s.length : Int) := by omega
          by_cases g1 : c < 48
          · have HN := Lib.hid (HND.out (.inl g1))
            have d1 : (c : Int) - 48 < 0 := by omega
            go_wp2_with fail
            go_ret2
            exact ⟨by rw [HN.out]; rfl, HBW.out⟩
          · by_cases g2 : 57 < c
            · have HN := Lib.hid (HND.out (.inr g2))
              have d1 : ¬ (c : Int) - 48 < 0 := by omega
              have d2 : (c : Int) - 48 > 9 := by omega
              go_wp2_with fail
              go_ret2
              exact ⟨by rw [HN.out]; rfl, HBW.out⟩
            · have d1 : ¬ (c : Int) - 48 < 0 := by omega
              have d2 : ¬ (c : Int) - 48 > 9 := by omega
              by_cases g3 : 922337203685477580 < v
              · have HN := Lib.hid (HNB.out (by omega))
                have d3 : -(v : Int) < -922337203685477580 := by omega
                go_wp2_with fail
                go_ret2
                exact ⟨by rw [HN.out]; rfl, HBW.out⟩
              · have d3 : ¬ -(v : Int) < -922337203685477580 := by omega
                by_cases g4 : 9223372036854775808 < v * 10 + (c - 48)
                · have HN := Lib.hid (HNB.out (by omega))
                  have d4 : -(v : Int) * 10 < -9223372036854775808 + ((c : Int) - 48) := by omega
                  go_wp2_with fail
                  go_ret2
                  exact ⟨by rw [HN.out]; rfl, HBW.out⟩
                · have d4 : ¬ -(v : Int) * 10 < -9223372036854775808 + ((c : Int) - 48) := by omega
                  have HG2 := Lib.hid (HNX.out (by omega) (by omega) (by omega))
                  have HEQ : -(v : Int) * 10 - ((c : Int) - 48) = -(valN (s.take (k + 1)) : Int) := by rw [HVN.out]; omega
                  go_wp2_with fail
                  go_round
                  case rel => exact ⟨k + 1, by omega, by go_num, by rw [← HEQ], HG2⟩
                  case measure => simp [intOf]; omega
        · obtain rfl : k = s.length := by omega
          have HGS := Lib.hid (show DigsOk s by have := HG.out; rwa [List.take_length] at this)
          have hvb : valN s ≤ 9223372036854775808 := HGS.out.2
          have htk : s.take s.length = s := List.take_length
          rw [htk]
          clear htk
          have HN := Lib.hid (numF_neg HP.out HGS.out HBG.out.ne HBG.out.zero (HBG.out.minus rfl))
          generalize valN s = v at hvb HN ⊢
          go_wp2_with fail
          go_ret2
          exact ⟨by rw [HN.out]; rfl, HBW.out⟩
    | false =>
      clear b3
      go_enter Tryd.func29, Tryd.ntmps29
      go_wp2_with fail
      refine HC.out.mono ?_
      rintro e w1 ⟨rfl, rfl⟩
      obtain ⟨cc, W, hcv, hbw, hcells⟩ := bytes_of s w1
      have HBW := Lib.hid hbw
      have HCE := Lib.hid hcells
      clear hbw hcells
      go_wp2_with fail
      go_loop [2, 36] (fun x i => ∃ k : Nat, k ≤ s.length ∧ i = .int .i64 k ∧ x = .int .i64 (-(valN (s.take k) : Int)) ∧ Hid (DigsOk (s.take k))) (fun _ i => s.length - (intOf i).toNat)
      case atStart => exact ⟨0, by omega, rfl, by simp [valN], Lib.hid good_nil⟩
      case round =>
        obtain ⟨k, hk, rfl, rfl, HG⟩ := hrel
        by_cases hlt : k < s.length
        · have ck : W.cell? ⟨w1.heap.size, k, none⟩ = some (.int .u8 (s[k].toNat : Int)) := HCE.out k hlt
          have hc255 : s[k].toNat ≤ 255 := by have := s[k].toNat_lt; omega
          have HND := Lib.hid (fun h => numF_bad HP.out (good_not_dig hlt h))
          have HNB := Lib.hid (fun h => numF_bad HP.out (good_not_big hlt h))
          have HNX := Lib.hid (fun h1 h2 h3 => good_next hlt HG.out h1 h2 h3)
          have HVN := Lib.hid (val_next hlt)
          have hvb : valN (s.take k) ≤ 9223372036854775808 := HG.out.2
          generalize hv : valN (s.take k) = v at hvb HND HNB HNX HVN
          have HV := Lib.hid hv
          clear hv
          generalize s[k].toNat = c at ck hc255 HND HNB HNX HVN
          have hlt' : (k : Int) < (s.length : Int) := by omega
          by_cases g1 : c < 48
          · have HN := Lib.hid (HND.out (.inl g1))
            have d1 : (c : Int) - 48 < 0 := by omega
            go_wp2_with fail
            go_ret2
            exact ⟨by rw [HN.out]; rfl, HBW.out⟩
          · by_cases g2 : 57 < c
            · have HN := Lib.hid (HND.out (.inr g2))
              have d1 : ¬ (c : Int) - 48 < 0 := by omega
              have d2 : (c : Int) - 48 > 9 := by omega
              go_wp2_with fail
              go_ret2
              exact ⟨by rw [HN.out]; rfl, HBW.out⟩
            · have d1 : ¬ (c : Int) - 48 < 0 := by omega
              have d2 : ¬ (c : Int) - 48 > 9 := by omega
              by_cases g3 : 922337203685477580 < v
              · have HN := Lib.hid (HNB.out (by omega))
                have d3 : -(v : Int) < -922337203685477580 := by omega
                go_wp2_with fail
                go_ret2
                exact ⟨by rw [HN.out]; rfl, HBW.out⟩
              · have d3 : ¬ -(v : Int) < -922337203685477580 := by omega
                by_cases g4 : 9223372036854775808 < v * 10 + (c - 48)
                · have HN := Lib.hid (HNB.out (by omega))
                  have d4 : -(v : Int) * 10 < -9223372036854775808 + ((c : Int) - 48) := by omega
                  go_wp2_with fail
                  go_ret2
                  exact ⟨by rw [HN.out]; rfl, HBW.out⟩
                · have d4 : ¬ -(v : Int) * 10 < -9223372036854775808 + ((c : Int) - 48) := by omega
                  have HG2 := Lib.hid (HNX.out (by omega) (by omega) (by omega))
                  have HEQ : -(v : Int) * 10 - ((c : Int) - 48) = -(valN (s.take (k + 1)) : Int) := by rw [HVN.out]; omega
                  go_wp2_with fail
                  go_round
                  case rel => exact ⟨k + 1, by omega, by go_num, by rw [← HEQ], HG2⟩
                  case measure => simp [intOf]; omega
        · obtain rfl : k = s.length := by omega
          have HGS := Lib.hid (show DigsOk s by have := HG.out; rwa [List.take_length] at this)
          have hvb : valN s ≤ 9223372036854775808 := HGS.out.2
          have htk : s.take s.length = s := List.take_length
          rw [htk]
          clear htk
          by_cases g : valN s = 9223372036854775808
          · have HN := Lib.hid (numF_big HP.out g)
            rw [g]
            go_wp2_with fail
            go_ret2
            exact ⟨by rw [HN.out]; rfl, HBW.out⟩
          · have HN := Lib.hid (numF_pos HP.out HGS.out HBG.out.ne HBG.out.zero (by omega))
            generalize valN s = v at hvb HN g ⊢
            have d1 : (-(v : Int) == -9223372036854775808) = false := by rw [beq_eq_false_iff_ne]; omega
            have d2 : (v : Int) ≤ 9223372036854775807 := by omega
            go_wp2_with fail
            go_ret2
            exact ⟨by rw [HN.out]; rfl, HBW.out⟩
  · clear z3
    have g1 : ¬ (1 : Int) < (s.length : Int) := by omega
    cases m with
    | true =>
      replace b3 := b3 rfl
      go_enter Tryd.func29, Tryd.ntmps29
      go_wp2_with fail
      refine HC.out.mono ?_
      rintro e w1 ⟨rfl, rfl⟩
      obtain ⟨cc, W, hcv, hbw, hcells⟩ := bytes_of s w1
      have HBW := Lib.hid hbw
      have HCE := Lib.hid hcells
      clear hbw hcells
      go_wp2_with fail
      go_loop [2, 36] (fun x i => ∃ k : Nat, k ≤ s.length ∧ i = .int .i64 k ∧ x = .int .i64 (-(valN (s.take k) : Int)) ∧ Hid (DigsOk (s.take k))) (fun _ i => s.length - (intOf i).toNat)
      case atStart => exact ⟨0, by omega, rfl, by simp [valN], Lib.hid good_nil⟩
      case round =>
        obtain ⟨k, hk, rfl, rfl, HG⟩ := hrel
        by_cases hlt : k < s.length
        · have ck : W.cell? ⟨w1.heap.size, k, none⟩ = some (.int .u8 (s[k].toNat : Int)) := HCE.out k hlt
          have hc255 : s[k].toNat ≤ 255 := by have := s[k].toNat_lt; omega
          have HND := Lib.hid (fun h => numF_bad HP.out (good_not_dig hlt h))
          have HNB := Lib.hid (fun h => numF_bad HP.out (good_not_big hlt h))
          have HNX := Lib.hid (fun h1 h2 h3 => good_next hlt HG.out h1 h2 h3)
          have HVN := Lib.hid (val_next hlt)
          have hvb : valN (s.take k) ≤ 9223372036854775808 := HG.out.2
          generalize hv : valN (s.take k) = v at hvb HND HNB HNX HVN
          have HV := Lib.hid hv
          clear hv
          generalize s[k].toNat = c at ck hc255 HND HNB HNX HVN
          have hlt' : (k : Int) < (s.length : Int) := by omega
          by_cases g1 : c < 48
          · have HN := Lib.hid (HND.out (.inl g1))
            have d1 : (c : Int) - 48 < 0 := by omega
            go_wp2_with fail
            go_ret2
            exact ⟨by rw [HN.out]; rfl, HBW.out⟩
          · by_cases g2 : 57 < c
            · have HN := Lib.hid (HND.out (.inr g2))
              have d1 : ¬ (c : Int) - 48 < 0 := by omega
              have d2 : (c : Int) - 48 > 9 := by omega
              go_wp2_with fail
              go_ret2
              exact ⟨by rw [HN.out]; rfl, HBW.out⟩
            · have d1 : ¬ (c : Int) - 48 < 0 := by omega
              have d2 : ¬ (c : Int) - 48 > 9 := by omega
              by_cases g3 : 922337203685477580 < v
              · have HN := Lib.hid (HNB.out (by omega))
                have d3 : -(v : Int) < -922337203685477580 := by omega
                go_wp2_with fail
                go_ret2
                exact ⟨by rw [HN.out]; rfl, HBW.out⟩
              · have d3 : ¬ -(v : Int) < -922337203685477580 := by omega
                by_cases g4 : 9223372036854775808 < v * 10 + (c - 48)
                · have HN := Lib.hid (HNB.out (by omega))
                  have d4 : -(v : Int) * 10 < -9223372036854775808 + ((c : Int) - 48) := by omega
                  go_wp2_with fail
                  go_ret2
                  exact ⟨by rw [HN.out]; rfl, HBW.out⟩
                · have d4 : ¬ -(v : Int) * 10 < -9223372036854775808 + ((c : Int) - 48) := by omega
                  have HG2 := Lib.hid (HNX.out (by omega) (by omega) (by omega))
                  have HEQ : -(v : Int) * 10 - ((c : Int) - 48) = -(valN (s.take (k + 1)) : Int) := by rw [HVN.out]; omega
                  go_wp2_with fail
                  go_round
                  case rel => exact ⟨k + 1, by omega, by go_num, by rw [← HEQ], HG2⟩
                  case measure => simp [intOf]; omega
        · obtain rfl : k = s.length := by omega
          have HGS := Lib.hid (show DigsOk s by have := HG.out; rwa [List.take_length] at this)
          have hvb : valN s ≤ 9223372036854775808 := HGS.out.2
          have htk : s.take s.length = s := List.take_length
          rw [htk]
          clear htk
          have HN := Lib.hid (numF_neg HP.out HGS.out HBG.out.ne HBG.out.zero (HBG.out.minus rfl))
          generalize valN s = v at hvb HN ⊢
          go_wp2_with fail
          go_ret2
          exact ⟨by rw [HN.out]; rfl, HBW.out⟩
    | false =>
      clear b3
      go_enter Tryd.func29, Tryd.ntmps29
      go_wp2_with fail
      refine HC.out.mono ?_
      rintro e w1 ⟨rfl, rfl⟩
      obtain ⟨cc, W, hcv, hbw, hcells⟩ := bytes_of s w1
      have HBW := Lib.hid hbw
      have HCE := Lib.hid hcells
      clear hbw hcells
      go_wp2_with fail
      go_loop [2, 36] (fun x i => ∃ k : Nat, k ≤ s.length ∧ i = .int .i64 k ∧ x = .int .i64 (-(valN (s.take k) : Int)) ∧ Hid (DigsOk (s.take k))) (fun _ i => s.length - (intOf i).toNat)
      case atStart => exact ⟨0, by omega, rfl, by simp [valN], Lib.hid good_nil⟩
      case round =>
        obtain ⟨k, hk, rfl, rfl, HG⟩ := hrel
        by_cases hlt : k < s.length
        · have ck : W.cell? ⟨w1.heap.size, k, none⟩ = some (.int .u8 (s[k].toNat : Int)) := HCE.out k hlt
          have hc255 : s[k].toNat ≤ 255 := by have := s[k].toNat_lt; omega
          have HND := Lib.hid (fun h => numF_bad HP.out (good_not_dig hlt h))
          have HNB := Lib.hid (fun h => numF_bad HP.out (good_not_big hlt h))
          have HNX := Lib.hid (fun h1 h2 h3 => good_next hlt HG.out h1 h2 h3)
          have HVN := Lib.hid (val_next hlt)
          have hvb : valN (s.take k) ≤ 9223372036854775808 := HG.out.2
          generalize hv : valN (s.take k) = v at hvb HND HNB HNX HVN
          have HV := Lib.hid hv
          clear hv
          generalize s[k].toNat = c at ck hc255 HND HNB HNX HVN
          have hlt' : (k : Int) < (s.length : Int) := by omega
          by_cases g1 : c < 48
          · have HN := Lib.hid (HND.out (.inl g1))
            have d1 : (c : Int) - 48 < 0 := by omega
            go_wp2_with fail
            go_ret2
            exact ⟨by rw [HN.out]; rfl, HBW.out⟩
          · by_cases g2 : 57 < c
            · have HN := Lib.hid (HND.out (.inr g2))
              have d1 : ¬ (c : Int) - 48 < 0 := by omega
              have d2 : (c : Int) - 48 > 9 := by omega
              go_wp2_with fail
              go_ret2
              exact ⟨by rw [HN.out]; rfl, HBW.out⟩
            · have d1 : ¬ (c : Int) - 48 < 0 := by omega
              have d2 : ¬ (c : Int) - 48 > 9 := by omega
              by_cases g3 : 922337203685477580 < v
              · have HN := Lib.hid (HNB.out (by omega))
                have d3 : -(v : Int) < -922337203685477580 := by omega
                go_wp2_with fail
                go_ret2
                exact ⟨by rw [HN.out]; rfl, HBW.out⟩
              · have d3 : ¬ -(v : Int) < -922337203685477580 := by omega
                by_cases g4 : 9223372036854775808 < v * 10 + (c - 48)
                · have HN := Lib.hid (HNB.out (by omega))
                  have d4 : -(v : Int) * 10 < -9223372036854775808 + ((c : Int) - 48) := by omega
                  go_wp2_with fail
                  go_ret2
                  exact ⟨by rw [HN.out]; rfl, HBW.out⟩
                · have d4 : ¬ -(v : Int) * 10 < -9223372036854775808 + ((c : Int) - 48) := by omega
                  have HG2 := Lib.hid (HNX.out (by omega) (by omega) (by omega))
                  have HEQ : -(v : Int) * 10 - ((c : Int) - 48) = -(valN (s.take (k + 1)) : Int) := by rw [HVN.out]; omega
                  go_wp2_with fail
                  go_round
                  case rel => exact ⟨k + 1, by omega, by go_num, by rw [← HEQ], HG2⟩
                  case measure => simp [intOf]; omega
        · obtain rfl : k = s.length := by omega
          have HGS := Lib.hid (show DigsOk s by have := HG.out; rwa [List.take_length] at this)
          have hvb : valN s ≤ 9223372036854775808 := HGS.out.2
          have htk : s.take s.length = s := List.take_length
          rw [htk]
          clear htk
          by_cases g : valN s = 9223372036854775808
          · have HN := Lib.hid (numF_big HP.out g)
            rw [g]
            go_wp2_with fail
            go_ret2
            exact ⟨by rw [HN.out]; rfl, HBW.out⟩
          · have HN := Lib.hid (numF_pos HP.out HGS.out HBG.out.ne HBG.out.zero (by omega))
            generalize valN s = v at hvb HN g ⊢
            have d1 : (-(v : Int) == -9223372036854775808) = false := by rw [beq_eq_false_iff_ne]; omega
            have d2 : (v : Int) ≤ 9223372036854775807 := by omega
            go_wp2_with fail
            go_ret2
            exact ⟨by rw [HN.out]; rfl, HBW.out⟩
set_option maxRecDepth 20000 in
set_option maxHeartbeats 8000000 in
theorem number_walk (l s : List UInt8) (m : Bool) (hp : Part l m s) (hl : s.length ≤ 100000) (w : World)
    (hc : Calls Tryd.prog 82 #[.string (strB l), .string ⟨#[45]⟩] w fun e w' => e = .returned (.tuple #[.string (strB s), .bool m]) ∧ w' = w) :
    Calls Tryd.prog 29 #[.string (strB l)] w (NumIs (numF l) w) := by
  by_cases hne : s = []
  · subst hne
    have HN := Lib.hid (numF_nil hp)
    have b1 : (strB []).toList = [] := by rw [ByteArray.toList_eq, strB_list]
    have HC := Lib.hid hc
    clear hc hp
    go_enter Tryd.func29, Tryd.ntmps29
    go_wp2_with fail
    refine HC.out.mono ?_
    rintro e w1 ⟨rfl, rfl⟩
    go_wp2_with fail
    go_ret2
    exact ⟨by rw [HN.out]; rfl, Below.refl _ _⟩
  · by_cases hz : 1 < s.length ∧ s.head? = some 48
    · have HN := Lib.hid (numF_zero hp hz.1 hz.2)
      have z1 : (strB s).size = s.length := strB_size s
      have b1 : ((strB s).toList == []) = false := by rw [ByteArray.toList_eq, strB_list]; simpa using hne
      have b2 : ((strB s).toList.isEmpty) = false := by rw [ByteArray.toList_eq, strB_list]; simpa using hne
      have hpos : 0 < s.length := List.length_pos_iff.2 hne
      have z3 : ∀ h, ((((strB s)[0]'h).toNat : Int) == 48) = true := fun h => by
        rw [strB_at s 0 h hpos, beq_iff_eq]
        have h2 := hz.2
        rw [List.head?_eq_getElem?, List.getElem?_eq_getElem hpos] at h2
        injection h2 with h2
        rw [h2]; rfl
      have g1 : (1 : Int) < (s.length : Int) := by omega
      have HC := Lib.hid hc
      clear hc hp hz hne
      go_enter Tryd.func29, Tryd.ntmps29
      go_wp2_with fail
      refine HC.out.mono ?_
      rintro e w1 ⟨rfl, rfl⟩
      go_wp2_with fail
      go_ret2
      exact ⟨by rw [HN.out]; rfl, Below.refl _ _⟩
    · by_cases hm : m = true ∧ s = [48]
      · obtain ⟨rfl, rfl⟩ := hm
        have HN := Lib.hid (numF_minus0 hp)
        have z1 : (strB [48]).size = 1 := strB_size _
        have b1 : ((strB [48]).toList == []) = false := by rw [ByteArray.toList_eq, strB_list]; rfl
        have b2 : ((strB [48]).toList.isEmpty) = false := by rw [ByteArray.toList_eq, strB_list]; rfl
        have b3 : ((strB [48]).toList == [48]) = true := by rw [ByteArray.toList_eq, strB_list]; rfl
        have HC := Lib.hid hc
        clear hc hp hz hne
        go_enter Tryd.func29, Tryd.ntmps29
        go_wp2_with fail
        refine HC.out.mono ?_
        rintro e w1 ⟨rfl, rfl⟩
        go_wp2_with fail
        go_ret2
        exact ⟨by rw [HN.out]; rfl, Below.refl _ _⟩
      · exact number_loop l s m hp hl w ⟨hne, fun h1 h2 => hz ⟨h1, h2⟩, fun h1 h2 => hm ⟨h1, h2⟩⟩ hc
theorem wnumber_any (l : List UInt8) (hl : l.length ≤ 100000) (w : World) :
    Calls Tryd.prog 29 #[.string (strB l)] w (NumIs (numF l) w) := by
  have h := Shelf.strings_CutPrefix (strB l) ⟨#[45]⟩ w
  rw [strB_list, show (⟨#[45]⟩ : ByteArray).data.toList = [45] from rfl] at h
  refine number_walk l (Lib.trimPrefix l [45]) (Lib.hasPrefix l [45]) (trim_part l) ?_ w h
  unfold Lib.trimPrefix
  split
  · rw [List.length_drop]; omega
  · exact hl
end Go.Proofs.YtmkcooamgojbpaaDoor.Lines

/- damperref35.decimal, and Line at a tick; damperref36.text. -/
namespace Go.Proofs.YtmkcooamgojbpaaDoor.Lines
open Go.RowKit Go.Proofs.YtmkcooamgojbpaaDoor.Kit Go.Proofs.YtmkcooamgojbpaaDoor.Blk Go.Proofs.YtmkcooamgojbpaaDoor.Dec Go.Proofs.YtmkcooamgojbpaaDoor.Words Go.Proofs.YtmkcooamgojbpaaDoor.Octets
attribute [local go_sem ↓] Go.wp_at_zero Go.wp_at_succ
set_option linter.unusedVariables false

theorem strB_app (a b : List UInt8) : strB a ++ strB b = strB (a ++ b) := by
  apply ByteArray.ext
  simp [strB]
/-- One digit's text. -/
theorem digit_text (w : World) (n : Nat) (h : n < 10) : (convert 40 9 (.slice (some ⟨w.heap.size, 0, none⟩) 1 1)).run Tryd.prog (w.alloc (.cells #[.int .u8 (48 + (n : Int))] 5)) = .ok (.string (strB (decN n))) (w.alloc (.cells #[.int .u8 (48 + (n : Int))] 5)) := by
  rw [decN_small h]
  refine run_convert_bytes_back _ _ _ 5 ⟨w.heap.size, 0, none⟩ 1 [dg n] Tryd.underlying40 Tryd.underlying5 Tryd.underlying9 fun j hj => ?_
  have hj : j = 0 := by simpa using hj
  subst hj
  rw [Addr.add_mid, Nat.zero_add]
  refine cell_new _ _ _ _ _ _ rfl ?_
  show some _ = some _
  rw [List.getElem_cons_zero, dg_nat h]
  congr 2
set_option maxRecDepth 20000 in
set_option maxHeartbeats 2000000 in
theorem rdec_pos : ∀ (n : Nat), n ≤ 9223372036854775807 → ∀ (w : World),
    Calls Tryd.prog 83 #[.int .i64 (n : Int)] w fun e w' => e = .returned (.string (strB (decN n))) ∧ Below w.heap.size w w' := by
  intro n
  induction n using Nat.strongRecOn with
  | _ n ih =>
    intro hn w
    have b1 : ((n : Int) == -9223372036854775808) = false := by rw [beq_eq_false_iff_ne]; omega
    have b2 : ¬ (n : Int) < 0 := by omega
    by_cases h : n < 10
    · have HT := digit_text w n h
      have b3 : (n : Int) < 10 := by omega
      clear ih
      go_enter Tryd.func83, Tryd.ntmps83
      go_wp2_with fail
      go_ret
      exact ⟨rfl, (Below.refl _ _).alloc (Nat.le_refl _) _⟩
    · have H1 := Lib.hid (ih (n / 10) (by omega) (by omega))
      have H2 := Lib.hid (ih (n % 10) (by omega) (by omega))
      have HD := Lib.hid (show strB (decN (n / 10)) ++ strB (decN (n % 10)) = strB (decN n) by rw [strB_app, decN_big h, decN_small (Nat.mod_lt n (by decide))])
      have b3 : ¬ (n : Int) < 10 := by omega
      have hz : (strB (decN (n / 10))).size + (strB (decN (n % 10))).size ≤ 9223372036854775807 := by
        rw [strB_size, strB_size]
        have h1 := decN_long (n := n / 10) (by omega)
        have h2 := decN_long (n := n % 10) (by omega)
        omega
      clear ih
      go_enter Tryd.func83, Tryd.ntmps83
      go_wp2_with fail
      refine (H1.out w).mono ?_
      rintro e w1 ⟨rfl, hb1⟩
      have HB1 := Lib.hid hb1
      clear hb1
      go_wp2_with fail
      refine (H2.out w1).mono ?_
      rintro e w2 ⟨rfl, hb2⟩
      have HB2 := Lib.hid (HB1.out.trans (hb2.mono HB1.out.size))
      clear hb2
      go_wp2_with fail
      go_ret
      exact ⟨by rw [← HD.out]; rfl, HB2.out⟩
theorem dec_pos {n : Int} (h : ¬ n < 0) : decB n = decN n.toNat := by rw [decB, if_neg h]; congr 1; omega
theorem dec_neg {n : Int} (h : n < 0) : decB n = 45 :: decN (-n).toNat := by rw [decB, if_pos h]; congr 2; omega
set_option maxRecDepth 20000 in
set_option maxHeartbeats 2000000 in
theorem rdecimal_any (n : Int) (h0 : -9223372036854775808 ≤ n) (h1 : n ≤ 9223372036854775807) (w : World) :
    Calls Tryd.prog 83 #[.int .i64 n] w fun e w' => e = .returned (.string (strB (decB n))) ∧ Below w.heap.size w w' := by
  by_cases hn : n < 0
  · by_cases hl : n = -9223372036854775808
    · subst hl
      have HE := Lib.hid (show decB (-9223372036854775808) = [45, 57, 50, 50, 51, 51, 55, 50, 48, 51, 54, 56, 53, 52, 55, 55, 53, 56, 48, 56] from by decide +kernel)
      go_enter Tryd.func83, Tryd.ntmps83
      go_wp2_with fail
      go_ret
      exact ⟨by rw [HE.out]; rfl, Below.refl _ _⟩
    · have b1 : (n == -9223372036854775808) = false := by rw [beq_eq_false_iff_ne]; exact hl
      have HC := Lib.hid (rdec_pos (-n).toNat (by omega) w)
      have HD := Lib.hid (dec_neg hn)
      have e1 : ((-n).toNat : Int) = -n := by omega
      rw [e1] at HC
      have hz : (strB (decN (-n).toNat)).size ≤ 100 := by
        rw [strB_size]
        have h1 := decN_long (n := (-n).toNat) (by omega)
        omega
      have h2 : -n ≤ 9223372036854775807 := by omega
      have HS := Lib.hid (show (⟨#[45]⟩ : ByteArray) ++ strB (decN (-n).toNat) = strB (decB n) from by rw [HD.out]; exact strB_app [45] _)
      generalize decN (-n).toNat = d at HC HS hz
      clear e1 hl
      go_enter Tryd.func83, Tryd.ntmps83
      go_wp2_with fail
      refine HC.out.mono ?_
      rintro e w1 ⟨rfl, hb1⟩
      have HB1 := Lib.hid hb1
      clear hb1
      go_wp2_with fail
      go_ret
      exact ⟨by rw [← HS.out]; rfl, HB1.out⟩
  · have HC := rdec_pos n.toNat (by omega) w
    rw [show ((n.toNat : Nat) : Int) = n by omega] at HC
    rw [dec_pos hn]
    exact HC
end Go.Proofs.YtmkcooamgojbpaaDoor.Lines

/- message.Right and damperref06.Right. -/
namespace Go.Proofs.YtmkcooamgojbpaaDoor.Reports
open Go.RowKit Go.Proofs.YtmkcooamgojbpaaDoor.Kit Go.Proofs.YtmkcooamgojbpaaDoor.Blk Go.Proofs.YtmkcooamgojbpaaDoor.Dec Go.Proofs.YtmkcooamgojbpaaDoor.Words Go.Proofs.YtmkcooamgojbpaaDoor.Octets Go.Proofs.YtmkcooamgojbpaaDoor.Lines Go.Proofs.YtmkcooamgojbpaaDoor.Msgs
attribute [local go_sem ↓] Go.wp_at_zero Go.wp_at_succ
set_option linter.unusedVariables false

theorem all_no {l : List Int} {lo hi : Int} {k : Nat} (h : k < l.length) (hb : l[k] < lo ∨ hi < l[k]) : allIn lo hi l = false := by
  cases e : allIn lo hi l with
  | false => rfl
  | true =>
    have := List.all_eq_true.1 e _ (List.getElem_mem h)
    simp at this
    omega
theorem all_yes {l : List Int} {lo hi : Int} (h : ∀ k, (hk : k < l.length) → ¬ l[k] < lo ∧ ¬ hi < l[k]) : allIn lo hi l = true := by
  refine List.all_eq_true.2 fun n hn => ?_
  obtain ⟨k, hk, rfl⟩ := List.mem_iff_getElem.1 hn
  have := h k hk
  simp; omega
set_option maxHeartbeats 1000000 in
theorem within_any (lo hi : Int) (l : List Int) (hl : l.length ≤ 1000) (B c : Nat) (w : World) (hB : Blk w B (ints l).toArray 2) :
    Calls Tryd.prog 158 #[.int .i64 lo, .int .i64 hi, .slice (some ⟨B, 0, none⟩) l.length c] w fun e w' => e = .returned (.bool (allIn lo hi l)) ∧ w = w' := by
  have HB := Lib.hid hB
  clear hB
  go_enter Tryd.func158, Tryd.ntmps158
  go_wp2_with fail
  go_loop [11] (fun i => ∃ k : Nat, k ≤ l.length ∧ i = .int .i64 k ∧ Hid (∀ j, (hj : j < l.length) → j < k → ¬ l[j] < lo ∧ ¬ hi < l[j])) (fun i => l.length - (intOf i).toNat)
  case atStart => exact ⟨0, by omega, rfl, Lib.hid fun j _ h => absurd h (Nat.not_lt_zero _)⟩
  case round =>
    obtain ⟨k, hk, rfl, HP⟩ := hrel
    by_cases hlt : k < l.length
    · have ck : w.cell? ⟨B, k, none⟩ = some (.int .i64 l[k]) := HB.out.cell k (by simp [ints, hlt])
      have HN := Lib.hid (fun h => all_no (lo := lo) (hi := hi) hlt h)
      have HY := Lib.hid (show (¬ l[k] < lo ∧ ¬ hi < l[k]) → ∀ j, (hj : j < l.length) → j < k + 1 → ¬ l[j] < lo ∧ ¬ hi < l[j] from fun h j hj hjk => by
        by_cases e : j < k
        · exact HP.out j hj e
        · have : j = k := by omega
          subst this; exact h)
      generalize l[k] = n at ck HN HY
      by_cases g1 : n < lo
      · go_wp2_with fail
        go_ret
        exact ⟨by rw [HN.out (.inl g1)]; rfl, rfl⟩
      · by_cases g2 : hi < n
        · go_wp2_with fail
          go_ret
          exact ⟨by rw [HN.out (.inr g2)]; rfl, rfl⟩
        · go_wp2_with fail
          go_round
          case rel => exact ⟨k + 1, by omega, by go_num, Lib.hid (HY.out ⟨g1, g2⟩)⟩
          case measure => simp [intOf]; omega
    · have HE := Lib.hid (all_yes (lo := lo) (hi := hi) (fun j hj => HP.out j hj (by omega)))
      go_wp2_with fail
      go_ret
      exact ⟨by rw [HE.out]; rfl, rfl⟩
set_option maxRecDepth 20000 in
set_option maxHeartbeats 2000000 in
theorem mright_any (m : Msg) (w : World) :
    Calls Tryd.prog 99 #[.agg m.cells] w fun e w' => e = .returned (.bool (rightM m)) ∧ Below w.heap.size w w' := by
  unfold Msg.cells
  go_enter Tryd.func99, Tryd.ntmps99
  go_wp2_with fail
  refine (within_any 1 9 [m.kind] (by simp) _ _ _ (Blk.new _ _ _ _ (by simp))).mono ?_
  rintro e w' ⟨rfl, rfl⟩
  cases hb1 : allIn 1 9 [m.kind]
  · have HE := Lib.hid (show rightM m = false by simp [allIn] at hb1; simp [rightM]; omega)
    go_wp2_with fail
    go_ret
    exact ⟨by rw [HE.out]; rfl, by repeat (first | exact Below.refl _ _ | refine Below.alloc ?_ (by first | (simp; done) | (simp; omega)) _)⟩
  · go_wp2_with fail
    refine (within_any 0 255 [m.sym, m.code] (by simp) _ _ _ (Blk.new _ _ _ _ (by simp))).mono ?_
    rintro e w' ⟨rfl, rfl⟩
    cases hb2 : allIn 0 255 [m.sym, m.code]
    · have HE := Lib.hid (show rightM m = false by simp [allIn] at hb2; simp [rightM]; omega)
      go_wp2_with fail
      go_ret
      exact ⟨by rw [HE.out]; rfl, by repeat (first | exact Below.refl _ _ | refine Below.alloc ?_ (by first | (simp; done) | (simp; omega)) _)⟩
    · go_wp2_with fail
      refine (within_any 0 4611686018427387904 [m.seq, m.tick] (by simp) _ _ _ (Blk.new _ _ _ _ (by simp))).mono ?_
      rintro e w' ⟨rfl, rfl⟩
      cases hb3 : allIn 0 4611686018427387904 [m.seq, m.tick]
      · have HE := Lib.hid (show rightM m = false by simp [allIn] at hb3; simp [rightM]; omega)
        go_wp2_with fail
        go_ret
        exact ⟨by rw [HE.out]; rfl, by repeat (first | exact Below.refl _ _ | refine Below.alloc ?_ (by first | (simp; done) | (simp; omega)) _)⟩
      · go_wp2_with fail
        refine (within_any (-1) 4611686018427387904 [m.id, m.wth] (by simp) _ _ _ (Blk.new _ _ _ _ (by simp))).mono ?_
        rintro e w' ⟨rfl, rfl⟩
        cases hb4 : allIn (-1) 4611686018427387904 [m.id, m.wth]
        · have HE := Lib.hid (show rightM m = false by simp [allIn] at hb4; simp [rightM]; omega)
          go_wp2_with fail
          go_ret
          exact ⟨by rw [HE.out]; rfl, by repeat (first | exact Below.refl _ _ | refine Below.alloc ?_ (by first | (simp; done) | (simp; omega)) _)⟩
        · have HE := Lib.hid (show rightM m = true by simp [allIn] at hb1 hb2 hb3 hb4; simp [rightM]; omega)
          go_wp2_with fail
          go_ret
          exact ⟨by rw [HE.out]; rfl, by repeat (first | exact Below.refl _ _ | refine Below.alloc ?_ (by first | (simp; done) | (simp; omega)) _)⟩
def inN (n lo hi : Int) : Bool := decide (lo ≤ n) && decide (n ≤ hi)
theorem in_any (n lo hi : Int) (w : World) :
    Calls Tryd.prog 160 #[.int .i64 n, .int .i64 lo, .int .i64 hi] w fun e w' => e = .returned (.bool (inN n lo hi)) ∧ w = w' := by
  by_cases h : lo ≤ n
  · have HE := Lib.hid (show inN n lo hi = decide (n ≤ hi) by simp [inN, h])
    go_enter Tryd.func160, Tryd.ntmps160
    go_wp2_with fail
    all_goals (go_ret; exact ⟨by rw [HE.out]; simp, rfl⟩)
  · have HE := Lib.hid (show inN n lo hi = false by simp [inN]; omega)
    go_enter Tryd.func160, Tryd.ntmps160
    go_wp2_with fail
    all_goals (go_ret; exact ⟨by rw [HE.out]; rfl, rfl⟩)
set_option maxRecDepth 20000 in
set_option maxHeartbeats 2000000 in
theorem rmright_any (m : Msg) (w : World) :
    Calls Tryd.prog 102 #[.agg m.cells] w fun e w' => e = .returned (.bool (rightM m)) ∧ Below w.heap.size w w' := by
  unfold Msg.cells
  go_enter Tryd.func102, Tryd.ntmps102
  go_wp2_with fail
  refine (in_any m.kind 1 9 _).mono ?_
  rintro e w' ⟨rfl, rfl⟩
  cases hb1 : inN m.kind 1 9
  · have HE := Lib.hid (show rightM m = false by simp [inN] at hb1; simp [rightM]; omega)
    go_wp2_with fail
    go_ret
    exact ⟨by rw [HE.out]; rfl, (Below.refl _ _).alloc (Nat.le_refl _) _⟩
  · go_wp2_with fail
    refine (in_any m.sym 0 255 _).mono ?_
    rintro e w' ⟨rfl, rfl⟩
    cases hb2 : inN m.sym 0 255
    · have HE := Lib.hid (show rightM m = false by simp [inN] at hb2; simp [rightM]; omega)
      go_wp2_with fail
      go_ret
      exact ⟨by rw [HE.out]; rfl, (Below.refl _ _).alloc (Nat.le_refl _) _⟩
    · go_wp2_with fail
      refine (in_any m.code 0 255 _).mono ?_
      rintro e w' ⟨rfl, rfl⟩
      cases hb3 : inN m.code 0 255
      · have HE := Lib.hid (show rightM m = false by simp [inN] at hb3; simp [rightM]; omega)
        go_wp2_with fail
        go_ret
        exact ⟨by rw [HE.out]; rfl, (Below.refl _ _).alloc (Nat.le_refl _) _⟩
      · go_wp2_with fail
        refine (in_any m.seq 0 4611686018427387904 _).mono ?_
        rintro e w' ⟨rfl, rfl⟩
        cases hb4 : inN m.seq 0 4611686018427387904
        · have HE := Lib.hid (show rightM m = false by simp [inN] at hb4; simp [rightM]; omega)
          go_wp2_with fail
          go_ret
          exact ⟨by rw [HE.out]; rfl, (Below.refl _ _).alloc (Nat.le_refl _) _⟩
        · go_wp2_with fail
          refine (in_any m.tick 0 4611686018427387904 _).mono ?_
          rintro e w' ⟨rfl, rfl⟩
          cases hb5 : inN m.tick 0 4611686018427387904
          · have HE := Lib.hid (show rightM m = false by simp [inN] at hb5; simp [rightM]; omega)
            go_wp2_with fail
            go_ret
            exact ⟨by rw [HE.out]; rfl, (Below.refl _ _).alloc (Nat.le_refl _) _⟩
          · go_wp2_with fail
            refine (in_any m.id (-1) 4611686018427387904 _).mono ?_
            rintro e w' ⟨rfl, rfl⟩
            cases hb6 : inN m.id (-1) 4611686018427387904
            · have HE := Lib.hid (show rightM m = false by simp [inN] at hb6; simp [rightM]; omega)
              go_wp2_with fail
              go_ret
              exact ⟨by rw [HE.out]; rfl, (Below.refl _ _).alloc (Nat.le_refl _) _⟩
            · go_wp2_with fail
              refine (in_any m.wth (-1) 4611686018427387904 _).mono ?_
              rintro e w' ⟨rfl, rfl⟩
              cases hb7 : inN m.wth (-1) 4611686018427387904
              · have HE := Lib.hid (show rightM m = false by simp [inN] at hb7; simp [rightM]; omega)
                go_wp2_with fail
                go_ret
                exact ⟨by rw [HE.out]; rfl, (Below.refl _ _).alloc (Nat.le_refl _) _⟩
              · have HE := Lib.hid (show rightM m = true by simp [inN] at hb1 hb2 hb3 hb4 hb5 hb6 hb7; simp [rightM]; omega)
                go_wp2_with fail
                go_ret
                exact ⟨by rw [HE.out]; rfl, (Below.refl _ _).alloc (Nat.le_refl _) _⟩
end Go.Proofs.YtmkcooamgojbpaaDoor.Reports

/- report.Word and damperref36.Word; report.names. -/
namespace Go.Proofs.YtmkcooamgojbpaaDoor.Reports
open Go.RowKit Go.Proofs.YtmkcooamgojbpaaDoor.Kit Go.Proofs.YtmkcooamgojbpaaDoor.Blk Go.Proofs.YtmkcooamgojbpaaDoor.Dec Go.Proofs.YtmkcooamgojbpaaDoor.Words Go.Proofs.YtmkcooamgojbpaaDoor.Octets Go.Proofs.YtmkcooamgojbpaaDoor.Lines Go.Proofs.YtmkcooamgojbpaaDoor.Msgs
attribute [local go_sem ↓] Go.wp_at_zero Go.wp_at_succ
set_option linter.unusedVariables false

def namesC : Array Value := (strs kindsF).toArray
theorem namesC_at {k : Int} (h : 1 ≤ k ∧ k ≤ 9) : namesC[k.toNat]? = some (.string (strB (wordK k))) := by
  rcases cases9 h with rfl | rfl | rfl | rfl | rfl | rfl | rfl | rfl | rfl <;> rfl
theorem wordK_none {k : Int} (h : k < 1 ∨ 9 < k) : wordK k = [] := by
  unfold wordK
  rw [if_neg (by omega)]
set_option maxRecDepth 20000 in
theorem names_any (w : World) : Calls Tryd.prog 107 #[] w fun e w' => e = .returned (.agg namesC) ∧ Below w.heap.size w w' := by
  go_enter Tryd.func107, Tryd.ntmps107
  go_wp2_with fail
  refine bodyPost_ret (v := .agg namesC) (by simp [results, Tryd.results107, go_sem]; rfl) rfl ⟨rfl, (Below.refl _ _).alloc (Nat.le_refl _) _⟩
def zeroNames : Array Value := #[.string ⟨#[]⟩, .string ⟨#[]⟩, .string ⟨#[]⟩, .string ⟨#[]⟩, .string ⟨#[]⟩, .string ⟨#[]⟩, .string ⟨#[]⟩, .string ⟨#[]⟩, .string ⟨#[]⟩, .string ⟨#[]⟩]
theorem one_names : namesC.all (·.oneCell') = true := by simp [namesC, strs, Value.oneCell', kindsF]
set_option maxRecDepth 20000 in
set_option maxHeartbeats 4000000 in
theorem word_any (k : Int) (w : World) : Calls Tryd.prog 46 #[.int .i64 k] w fun e w' => e = .returned (.string (strB (wordK k))) ∧ Below w.heap.size w w' := by
  by_cases h1 : k < 1
  · have HE := Lib.hid (wordK_none (.inl h1))
    go_enter Tryd.func46, Tryd.ntmps46
    go_wp2_with fail
    refine (names_any w).mono ?_
    rintro e w1 ⟨rfl, hb⟩
    have HB := Lib.hid (hb.alloc hb.size (.cells namesC 157))
    clear hb
    have HZ := Lib.hid (Blk.new w1 zeroNames 157 w1.heap.size rfl)
    have HN := Lib.hid (Blk.new w1 namesC 157 w1.heap.size rfl)
    go_upto_region 2 with (refine store_blk (by rfl) 157 _ _ (by rfl) w1.heap.size (by rfl) zeroNames namesC 157 HZ.out (by rfl) rfl (by kernel_rfl) one_names ?_; change wpList _ _ _ _ _ (World.setCells (w1.alloc (.cells zeroNames 157)) w1.heap.size 0 namesC.toList); rw [alloc_setCells w1 zeroNames namesC 157 rfl w1.heap.size rfl])
    generalize w1.alloc (.cells namesC 157) = w2 at HB HN ⊢
    clear HZ
    go_wp2_with fail
    go_ret
    exact ⟨by rw [HE.out]; rfl, HB.out⟩
  · by_cases h2 : 9 < k
    · have HE := Lib.hid (wordK_none (.inr h2))
      have h3 : k ≥ 10 := by omega
      go_enter Tryd.func46, Tryd.ntmps46
      go_wp2_with fail
      refine (names_any w).mono ?_
      rintro e w1 ⟨rfl, hb⟩
      have HB := Lib.hid (hb.alloc hb.size (.cells namesC 157))
      clear hb
      have HZ := Lib.hid (Blk.new w1 zeroNames 157 w1.heap.size rfl)
      have HN := Lib.hid (Blk.new w1 namesC 157 w1.heap.size rfl)
      go_upto_region 2 with (refine store_blk (by rfl) 157 _ _ (by rfl) w1.heap.size (by rfl) zeroNames namesC 157 HZ.out (by rfl) rfl (by kernel_rfl) one_names ?_; change wpList _ _ _ _ _ (World.setCells (w1.alloc (.cells zeroNames 157)) w1.heap.size 0 namesC.toList); rw [alloc_setCells w1 zeroNames namesC 157 rfl w1.heap.size rfl])
      generalize w1.alloc (.cells namesC 157) = w2 at HB HN ⊢
      clear HZ
      go_wp2_with fail
      go_ret
      exact ⟨by rw [HE.out]; rfl, HB.out⟩
    · have h3 : k < 10 := by omega
      have HK := Lib.hid (namesC_at (k := k) ⟨by omega, by omega⟩)
      go_enter Tryd.func46, Tryd.ntmps46
      go_wp2_with fail
      refine (names_any w).mono ?_
      rintro e w1 ⟨rfl, hb⟩
      have HB := Lib.hid (hb.alloc hb.size (.cells namesC 157))
      clear hb
      have HZ := Lib.hid (Blk.new w1 zeroNames 157 w1.heap.size rfl)
      have HN := Lib.hid (Blk.new w1 namesC 157 w1.heap.size rfl)
      go_upto_region 2 with (refine store_blk (by rfl) 157 _ _ (by rfl) w1.heap.size (by rfl) zeroNames namesC 157 HZ.out (by rfl) rfl (by kernel_rfl) one_names ?_; change wpList _ _ _ _ _ (World.setCells (w1.alloc (.cells zeroNames 157)) w1.heap.size 0 namesC.toList); rw [alloc_setCells w1 zeroNames namesC 157 rfl w1.heap.size rfl])
      generalize w1.alloc (.cells namesC 157) = w2 at HB HN ⊢
      clear HZ
      have ck : w2.cell? ⟨w1.heap.size, k.toNat, none⟩ = some (.string (strB (wordK k))) := HN.out.cell _ HK.out
      go_wp2_with fail
      go_ret
      exact ⟨rfl, HB.out⟩
end Go.Proofs.YtmkcooamgojbpaaDoor.Reports

/- report.kindOf. -/
namespace Go.Proofs.YtmkcooamgojbpaaDoor.Reports
open Go.RowKit Go.Proofs.YtmkcooamgojbpaaDoor.Kit Go.Proofs.YtmkcooamgojbpaaDoor.Blk Go.Proofs.YtmkcooamgojbpaaDoor.Dec Go.Proofs.YtmkcooamgojbpaaDoor.Words Go.Proofs.YtmkcooamgojbpaaDoor.Octets Go.Proofs.YtmkcooamgojbpaaDoor.Lines Go.Proofs.YtmkcooamgojbpaaDoor.Msgs
attribute [local go_sem ↓] Go.wp_at_zero Go.wp_at_succ
set_option linter.unusedVariables false

theorem strB_inj {a b : List UInt8} : strB a = strB b ↔ a = b := ⟨fun h => by have := congrArg (fun x : ByteArray => x.data.toList) h; simpa [strB] using this, fun h => by rw [h]⟩
/-- Where a word stands among others, or -1. -/
def placeI (ws : List (List UInt8)) (l : List UInt8) : Int := match ws.findIdx? (· == l) with
  | some i => (i : Int)
  | none => -1
theorem idx_from (l : List UInt8) : ∀ (ws : List (List UInt8)) (i : Nat), Lib.idxFromS (ws.map strB) (strB l) i = match ws.findIdx? (· == l) with
    | some k => (i : Int) + (k : Int)
    | none => -1 := by
  intro ws
  induction ws with
  | nil => intro i; rfl
  | cons a ws ih =>
    intro i
    rw [List.map_cons, Lib.idxFromS, List.findIdx?_cons, ih (i + 1)]
    by_cases h : a = l
    · subst h; simp
    · have h2 : ¬ strB a = strB l := fun e => h (strB_inj.1 e)
      have h3 : (a == l) = false := by simpa using h
      rw [if_neg h2, h3]
      cases ws.findIdx? (· == l) with
      | none => rfl
      | some k => show ((i + 1 : Nat) : Int) + (k : Int) = (i : Int) + ((k + 1 : Nat) : Int); omega
theorem idx_place (ws : List (List UInt8)) (l : List UInt8) : Lib.idxOfS (ws.map strB) (strB l) = placeI ws l := by
  unfold Lib.idxOfS placeI
  rw [idx_from]
  simp
theorem kind_place (l : List UInt8) : max (placeI kindsF l) 0 = kindF l := by
  unfold placeI kindF
  cases kindsF.findIdx? (· == l) <;> simp
  omega
/-- slices.Index over words. -/
theorem index_any (b c : Nat) (ws : List (List UInt8)) (hl : ws.length ≤ 1000) (l : List UInt8) (w : World) (hb : ∀ j, (h : j < ws.length) → w.cell? ⟨b, j, none⟩ = some (.string (strB ws[j]))) :
    Calls Tryd.prog 71 #[.slice (some ⟨b, 0, none⟩) ws.length c, .string (strB l)] w fun e w' => e = .returned (.int .i64 (placeI ws l)) ∧ w' = w := by
  have h := Shelf.slices_Index_string b 0 ws.length c (ws.map strB) (strB l) w (by simp) (by omega) (fun j hj => by
    rw [List.length_map] at hj
    rw [Nat.zero_add, hb j hj]
    simp [hj])
  rw [List.take_of_length_le (by simp), idx_place] at h
  exact h
theorem names_cells {w : World} {B : Nat} (h : Blk w B namesC 157) : ∀ j, (hj : j < kindsF.length) → w.cell? ⟨B, j, none⟩ = some (.string (strB kindsF[j])) := fun j hj =>
  h.cell j (by simp [namesC, strs, hj])
set_option maxRecDepth 20000 in
set_option maxHeartbeats 4000000 in
theorem kindOf_any (l : List UInt8) (w : World) : Calls Tryd.prog 98 #[.string (strB l)] w fun e w' => e = .returned (.int .i64 (kindF l)) ∧ Below w.heap.size w w' := by
  have HK := Lib.hid (kind_place l)
  go_enter Tryd.func98, Tryd.ntmps98
  go_wp2_with fail
  refine (names_any w).mono ?_
  rintro e w1 ⟨rfl, hb⟩
  have HB := Lib.hid (hb.alloc hb.size (.cells namesC 157))
  clear hb
  have HZ := Lib.hid (Blk.new w1 zeroNames 157 w1.heap.size rfl)
  have HN := Lib.hid (Blk.new w1 namesC 157 w1.heap.size rfl)
  go_upto_region 2 with (refine store_blk (by rfl) 157 _ _ (by rfl) w1.heap.size (by rfl) zeroNames namesC 157 HZ.out (by rfl) rfl (by kernel_rfl) one_names ?_; change wpList _ _ _ _ _ (World.setCells (w1.alloc (.cells zeroNames 157)) w1.heap.size 0 namesC.toList); rw [alloc_setCells w1 zeroNames namesC 157 rfl w1.heap.size rfl])
  generalize w1.alloc (.cells namesC 157) = w2 at HB HN ⊢
  clear HZ
  have HI := Lib.hid (index_any w1.heap.size 10 kindsF (by decide) l w2 (names_cells HN.out))
  go_wp2_with fail
  refine HI.out.mono ?_
  rintro e w3 ⟨rfl, rfl⟩
  go_wp2_with fail
  go_ret
  exact ⟨by rw [← HK.out]; rfl, HB.out⟩
end Go.Proofs.YtmkcooamgojbpaaDoor.Reports

/- report.Line. -/
namespace Go.Proofs.YtmkcooamgojbpaaDoor.Reports
open Go.RowKit Go.Proofs.YtmkcooamgojbpaaDoor.Kit Go.Proofs.YtmkcooamgojbpaaDoor.Blk Go.Proofs.YtmkcooamgojbpaaDoor.Dec Go.Proofs.YtmkcooamgojbpaaDoor.Words Go.Proofs.YtmkcooamgojbpaaDoor.Octets Go.Proofs.YtmkcooamgojbpaaDoor.Lines Go.Proofs.YtmkcooamgojbpaaDoor.Msgs Go.Proofs.YtmkcooamgojbpaaDoor.Open
attribute [local go_sem ↓] Go.wp_at_zero Go.wp_at_succ
set_option linter.unusedVariables false

def valsM (m : Msg) (j : Nat) : Int := ([m.seq, m.tick, m.sym, 0, m.id, m.wth, m.price, m.qty, m.code][j]?).getD 0
theorem vals_in {m : Msg} (h : Fits m) (j : Nat) (hj : j < 9) : -9223372036854775808 ≤ valsM m j ∧ valsM m j ≤ 9223372036854775807 := by
  obtain ⟨h1, h2, h3, h4, h5, h6, h7, h8, h9⟩ := h
  simp only [in64] at *
  have : j = 0 ∨ j = 1 ∨ j = 2 ∨ j = 3 ∨ j = 4 ∨ j = 5 ∨ j = 6 ∨ j = 7 ∨ j = 8 := by omega
  rcases this with rfl | rfl | rfl | rfl | rfl | rfl | rfl | rfl | rfl <;> simp [valsM] <;> omega
def nineM (m : Msg) : Array Value := #[.int .i64 m.seq, .int .i64 m.tick, .int .i64 m.sym, .int .i64 0, .int .i64 m.id, .int .i64 m.wth, .int .i64 m.price, .int .i64 m.qty, .int .i64 m.code]
theorem index_at (m : Msg) (k : Nat) (hk : k < 9) : ∀ W, (Instr.index 145 (.agg (nineM m)) (.int .i64 (k : Int))).run Tryd.prog W = .ok (.int .i64 (valsM m k)) W := by
  have : k = 0 ∨ k = 1 ∨ k = 2 ∨ k = 3 ∨ k = 4 ∨ k = 5 ∨ k = 6 ∨ k = 7 ∨ k = 8 := by omega
  intro W
  rcases this with rfl | rfl | rfl | rfl | rfl | rfl | rfl | rfl | rfl <;> kernel_rfl
structure LW (w : World) (m : Msg) (A : Nat) (wr : World) (k : Nat) : Prop where
  box : Blk wr w.heap.size m.cells 62
  arr : ∃ cs, Blk wr A cs 146 ∧ cs.size = 9 ∧ ∀ j, j < k → cs[j]? = some (.string (strB (decB (valsM m j))))
  bel : Below w.heap.size w wr
  ge : w.heap.size < A
section
variable {w wr w1 : World} {m : Msg} {A k : Nat}
theorem LW.below (h : LW w m A wr k) (hb : Below wr.heap.size wr w1) : LW w m A w1 k := by
  obtain ⟨cs, h1, h2, h3⟩ := h.arr
  exact ⟨h.box.below hb h.box.lt, ⟨cs, h1.below hb h1.lt, h2, h3⟩, h.bel.trans (hb.mono h.bel.size), h.ge⟩
theorem LW.put (h : LW w m A wr k) (hk : k < 9) : LW w m A (wr.setCell ⟨A, k, none⟩ (.string (strB (decB (valsM m k))))) (k + 1) := by
  obtain ⟨cs, h1, h2, h3⟩ := h.arr
  have hg := h.ge
  refine ⟨h.box.apart _ _ (by show A ≠ _; omega), ⟨_, h1.set k _, by simpa using h2, fun j hj => ?_⟩, h.bel.setCell (by show _ ≤ A; omega) _, h.ge⟩
  by_cases e : j = k
  · subst e; rw [Array.getElem?_setIfInBounds_self_of_lt (by omega)]
  · rw [Array.getElem?_setIfInBounds_ne (by omega)]; exact h3 j (by omega)
theorem LW.there (h : LW w m A wr k) (j : Nat) (hj : j < 9) : (∃ u, wr.cell? ⟨A, j, none⟩ = some u) ∧ wr.frozen? ⟨A, j, none⟩ = false := by
  obtain ⟨cs, h1, h2, h3⟩ := h.arr
  exact ⟨⟨_, h1.cell j (Array.getElem?_eq_getElem (by omega))⟩, h1.free j⟩
theorem LW.words (h : LW w m A wr 9) : ∀ j x, ((toksM m).map strB)[j]? = some x → (wr.setCell ⟨A, 3, none⟩ (.string (strB (wordK m.kind)))).cell? ⟨A, 0 + j, none⟩ = some (.string x) := by
  obtain ⟨cs, h1, h2, h3⟩ := h.arr
  intro j x hx
  have hj : j < 9 := by have := (List.getElem?_eq_some_iff.1 hx).1; simpa [toksM] using this
  have hb := h1.set 3 (.string (strB (wordK m.kind)))
  rw [Nat.zero_add]
  refine hb.cell j ?_
  have h0 := h3 0 (by omega); have h1 := h3 1 (by omega); have h2' := h3 2 (by omega); have h4 := h3 4 (by omega); have h5 := h3 5 (by omega); have h6 := h3 6 (by omega); have h7 := h3 7 (by omega); have h8 := h3 8 (by omega)
  have : j = 0 ∨ j = 1 ∨ j = 2 ∨ j = 3 ∨ j = 4 ∨ j = 5 ∨ j = 6 ∨ j = 7 ∨ j = 8 := by omega
  rcases this with rfl | rfl | rfl | rfl | rfl | rfl | rfl | rfl | rfl
  all_goals
    simp only [toksM, List.map_cons, List.map_nil, List.getElem?_cons_zero, List.getElem?_cons_succ, Option.some.injEq] at hx
    subst hx
    first | (rw [Array.getElem?_setIfInBounds_self_of_lt (by omega)]; done) | (rw [Array.getElem?_setIfInBounds_ne (by decide)]; assumption)
end
def RLineIs (m : Msg) (w : World) (e : Ending) (w' : World) : Prop := LineIs (if rightM m = true then some (lineM m) else none) w e w'
theorem one_msg (m : Msg) : m.cells.all (·.oneCell') = true := by simp [Msg.cells, Value.oneCell']
set_option maxRecDepth 20000 in
set_option maxHeartbeats 4000000 in
theorem repLine_any (m : Msg) (hf : Fits m) (w : World) (hm : MX w) :
    Calls Tryd.prog 42 #[.agg m.cells] w (RLineIs m w) := by
  have HM := Lib.hid hm
  clear hm
  have HX := Lib.hid (Blk.new w m.cells 62 w.heap.size rfl)
  cases hr : rightM m with
  | false =>
    have HR := Lib.hid hr
    clear hr
    go_enter Tryd.func42, Tryd.ntmps42
    go_wp2_with (refine load_blk (by rfl) 62 _ (by rfl) w.heap.size (by rfl) m.cells 62 HX.out _ Tryd.underlying62 rfl (by kernel_rfl) ?_)
    refine (mright_any m _).mono ?_
    rintro e w1 ⟨rfl, hb⟩
    have HB := Lib.hid (((Below.refl w.heap.size w).alloc (Nat.le_refl _) _).trans (hb.mono (by simp)))
    clear hb
    rw [HR.out]
    go_wp2_with fail
    go_ret2
    refine ⟨?_, HB.out⟩
    rw [HR.out]; rfl
  | true =>
    have HR := Lib.hid hr
    clear hr
    have HF := Lib.hid hf
    clear hf
    have HJL := Lib.hid (show (joinW 32 (toksM m)).length ≤ 140737488355328 from by have := line_len HF.out; unfold lineM at this; omega)
    go_enter Tryd.func42, Tryd.ntmps42
    go_wp2_with (refine load_blk (by rfl) 62 _ (by rfl) w.heap.size (by rfl) m.cells 62 HX.out _ Tryd.underlying62 rfl (by kernel_rfl) ?_)
    refine (mright_any m _).mono ?_
    rintro e w1 ⟨rfl, hb⟩
    have HB := Lib.hid (((Below.refl w.heap.size w).alloc (Nat.le_refl _) _).trans (hb.mono (by simp)))
    have HX1 := Lib.hid (HX.out.below hb HX.out.lt)
    have hsz : w.heap.size < w1.heap.size := HX1.out.lt
    clear hb HX
    rw [HR.out]
    have c0 : w1.cell? ⟨w.heap.size, 0, none⟩ = some (.int .i64 m.kind) := HX1.out.cell 0 rfl
    have c1 : w1.cell? ⟨w.heap.size, 1, none⟩ = some (.int .i64 m.sym) := HX1.out.cell 1 rfl
    have c2 : w1.cell? ⟨w.heap.size, 2, none⟩ = some (.int .i64 m.seq) := HX1.out.cell 2 rfl
    have c3 : w1.cell? ⟨w.heap.size, 3, none⟩ = some (.int .i64 m.tick) := HX1.out.cell 3 rfl
    have c4 : w1.cell? ⟨w.heap.size, 4, none⟩ = some (.int .i64 m.id) := HX1.out.cell 4 rfl
    have c5 : w1.cell? ⟨w.heap.size, 5, none⟩ = some (.int .i64 m.wth) := HX1.out.cell 5 rfl
    have c6 : w1.cell? ⟨w.heap.size, 6, none⟩ = some (.int .i64 m.price) := HX1.out.cell 6 rfl
    have c7 : w1.cell? ⟨w.heap.size, 7, none⟩ = some (.int .i64 m.qty) := HX1.out.cell 7 rfl
    have c8 : w1.cell? ⟨w.heap.size, 8, none⟩ = some (.int .i64 m.code) := HX1.out.cell 8 rfl
    have HL0 := Lib.hid (show LW w m w1.heap.size (w1.alloc (.cells #[.string ⟨#[]⟩, .string ⟨#[]⟩, .string ⟨#[]⟩, .string ⟨#[]⟩, .string ⟨#[]⟩, .string ⟨#[]⟩, .string ⟨#[]⟩, .string ⟨#[]⟩, .string ⟨#[]⟩] 146)) 0 from
      ⟨HX1.out.old _, ⟨_, Blk.new _ _ _ _ rfl, rfl, fun j h => absurd h (Nat.not_lt_zero _)⟩, HB.out.alloc HB.out.size _, hsz⟩)
    go_wp2_with fail
    generalize w1.alloc (.cells #[.string ⟨#[]⟩, .string ⟨#[]⟩, .string ⟨#[]⟩, .string ⟨#[]⟩, .string ⟨#[]⟩, .string ⟨#[]⟩, .string ⟨#[]⟩, .string ⟨#[]⟩, .string ⟨#[]⟩] 146) = w2 at HL0 ⊢
    generalize w1.heap.size = A at HL0 ⊢
    clear c0 c1 c2 c3 c4 c5 c6 c7 c8 HX1 HB hsz
    go_loopw [27] (fun i wr => ∃ k : Nat, k ≤ 9 ∧ i = .int .i64 k ∧ LW w m A wr k) (fun i _ => 9 - (intOf i).toNat)
    case atStart => exact ⟨0, by omega, rfl, HL0.out⟩
    case round =>
      obtain ⟨k, hk, rfl, hl⟩ := hrel
      have HLW := Lib.hid hl
      have HMX := Lib.hid (HM.out.below (n := 0) hl.bel)
      clear hl HL0
      by_cases hlt : k < 9
      · have hin := vals_in HF.out k hlt
        have hix := index_at m k hlt
        unfold nineM at hix
        have hk9 : (k : Int) < 9 := by omega
        generalize hv : valsM m k = v at hin hix
        have HV := Lib.hid hv
        clear hv
        go_wp2_with fail
        refine (number_any v hin.1 hin.2 wr HMX.out).mono ?_
        rintro e w3 ⟨rfl, hb3⟩
        have HL3 := Lib.hid (HLW.out.below hb3)
        obtain ⟨⟨u, cu⟩, fu⟩ := HL3.out.there k hlt
        have HP := Lib.hid (HL3.out.put hlt)
        rw [HV.out] at HP
        clear hb3 HLW HMX hix
        go_wp2_with fail
        go_roundw
        case rel => exact ⟨k + 1, by omega, by go_num, HP.out⟩
        case measure => simp [intOf]; omega
      · obtain rfl : k = 9 := by omega
        clear hlt hk
        have c0 : wr.cell? ⟨w.heap.size, 0, none⟩ = some (.int .i64 m.kind) := HLW.out.box.cell 0 rfl
        go_wp2_with fail
        refine (word_any m.kind wr).mono ?_
        rintro e w3 ⟨rfl, hb3⟩
        have HL3 := Lib.hid (HLW.out.below hb3)
        obtain ⟨⟨u, cu⟩, fu⟩ := HL3.out.there 3 (by decide)
        have hA : A < w3.heap.size := by obtain ⟨cs, h1, _⟩ := HL3.out.arr; exact h1.lt
        have HJ := Lib.hid (join_any A 9 (toksM m) (w3.setCell ⟨A, 3, none⟩ (.string (strB (wordK m.kind)))) (by simp [World.setCell]; exact hA) (by simp [toksM]) (by simp [toksM]) HJL.out HL3.out.words)
        have HB4 := Lib.hid (HL3.out.bel.setCell (p := ⟨A, 3, none⟩) (Nat.le_of_lt HL3.out.ge) (.string (strB (wordK m.kind))))
        clear hb3 HLW c0
        go_wp2_with fail
        refine HJ.out.mono ?_
        rintro e w4 ⟨rfl, hb4⟩
        have HB5 := Lib.hid (HB4.out.trans (hb4.mono HB4.out.size))
        clear hb4
        go_wp2_with fail
        go_ret2
        refine ⟨?_, HB5.out⟩
        rw [HR.out]; rfl
end Go.Proofs.YtmkcooamgojbpaaDoor.Reports

/- report.Parse. -/
namespace Go.Proofs.YtmkcooamgojbpaaDoor.Reports
open Go.RowKit Go.Proofs.YtmkcooamgojbpaaDoor.Kit Go.Proofs.YtmkcooamgojbpaaDoor.Blk Go.Proofs.YtmkcooamgojbpaaDoor.Dec Go.Proofs.YtmkcooamgojbpaaDoor.Words Go.Proofs.YtmkcooamgojbpaaDoor.Octets Go.Proofs.YtmkcooamgojbpaaDoor.Lines Go.Proofs.YtmkcooamgojbpaaDoor.Msgs Go.Proofs.YtmkcooamgojbpaaDoor.Open
attribute [local go_sem ↓] Go.wp_at_zero Go.wp_at_succ
set_option linter.unusedVariables false

/-- Where the reading of a message stands. -/
structure PS (w : World) (rb S C : Nat) (ws : List (List UInt8)) (mc : Array Value) (sv cv : Int) (W : World) : Prop where
  m : Blk W w.heap.size mc 62
  s : Blk W S #[.int .i64 sv] 2
  c : Blk W C #[.int .i64 cv] 2
  row : ∀ j, (h : j < ws.length) → W.cell? ⟨rb, j, none⟩ = some (.string (strB ws[j]))
  bel : Below w.heap.size w W
  rm : rb ≠ w.heap.size
  ms : w.heap.size < S
  rs : rb < S
  sc : S < C
section
variable {w W W' : World} {rb S C : Nat} {ws : List (List UInt8)} {mc : Array Value} {sv cv : Int}
theorem PS.below (h : PS w rb S C ws mc sv cv W) (hb : Below W.heap.size W W') : PS w rb S C ws mc sv cv W' :=
  ⟨h.m.below hb h.m.lt, h.s.below hb h.s.lt, h.c.below hb h.c.lt, fun j hj => by rw [hb.cell (p := ⟨rb, j, none⟩) (Nat.lt_trans h.rs h.s.lt)]; exact h.row j hj, h.bel.trans (hb.mono h.bel.size), h.rm, h.ms, h.rs, h.sc⟩
theorem PS.far (h : PS w rb S C ws mc sv cv W) {a : Addr} (ha : a.block ≠ rb) (v : Value) : ∀ j, (hj : j < ws.length) → (W.setCell a v).cell? ⟨rb, j, none⟩ = some (.string (strB ws[j])) := fun j hj => by
  rw [World.cell?_of_block (w := W) (w' := W.setCell a v) (a := ⟨rb, j, none⟩) (Below.heap_setCell _ _ _ _ (fun e => ha e.symm))]; exact h.row j hj
theorem PS.putM (h : PS w rb S C ws mc sv cv W) (i : Nat) (v : Value) : PS w rb S C ws (mc.setIfInBounds i v) sv cv (W.setCell ⟨w.heap.size, i, none⟩ v) :=
  have h1 := h.rm; have h2 := h.ms; have h4 := h.rs; have h3 := h.sc
  ⟨h.m.set i v, h.s.apart _ _ (by show w.heap.size ≠ _; omega), h.c.apart _ _ (by show w.heap.size ≠ _; omega), h.far (by show w.heap.size ≠ _; omega) v, h.bel.setCell (Nat.le_refl _) _, h.rm, h.ms, h.rs, h.sc⟩
theorem PS.putS (h : PS w rb S C ws mc sv cv W) (x : Int) : PS w rb S C ws mc x cv (W.setCell ⟨S, 0, none⟩ (.int .i64 x)) :=
  have h1 := h.rm; have h2 := h.ms; have h4 := h.rs; have h3 := h.sc
  ⟨h.m.apart _ _ (by show S ≠ _; omega), h.s.set 0 _, h.c.apart _ _ (by show S ≠ _; omega), h.far (by show S ≠ _; omega) _, h.bel.setCell (by show _ ≤ S; omega) _, h.rm, h.ms, h.rs, h.sc⟩
theorem PS.putC (h : PS w rb S C ws mc sv cv W) (x : Int) : PS w rb S C ws mc sv x (W.setCell ⟨C, 0, none⟩ (.int .i64 x)) :=
  have h1 := h.rm; have h2 := h.ms; have h4 := h.rs; have h3 := h.sc
  ⟨h.m.apart _ _ (by show C ≠ _; omega), h.s.apart _ _ (by show C ≠ _; omega), h.c.set 0 _, h.far (by show C ≠ _; omega) _, h.bel.setCell (by show _ ≤ C; omega) _, h.rm, h.ms, h.rs, h.sc⟩
end
def numAt (ws : List (List UInt8)) (j : Nat) : Int := (numF ((ws[j]?).getD [])).getD 0
def pk (k j : Nat) (v : Int) : Int := if j < k then v else 0
def cellsK (ws : List (List UInt8)) (k : Nat) : Array Value := #[.int .i64 (pk k 3 (kindF ((ws[3]?).getD []))), .int .i64 0, .int .i64 (pk k 0 (numAt ws 0)), .int .i64 (pk k 1 (numAt ws 1)), .int .i64 (pk k 4 (numAt ws 4)), .int .i64 (pk k 5 (numAt ws 5)), .int .i64 (pk k 6 (numAt ws 6)), .int .i64 (pk k 7 (numAt ws 7)), .int .i64 0]
def ParseIs (o : Option Msg) (w : World) (e : Ending) (w' : World) : Prop :=
  e = .returned (.tuple #[.agg (o.getD ⟨0, 0, 0, 0, 0, 0, 0, 0, 0⟩).cells, .int .i64 (if o.isSome = true then 0 else 4)]) ∧ Below w.heap.size w w'
def zeroM : Array Value := #[.int .i64 0, .int .i64 0, .int .i64 0, .int .i64 0, .int .i64 0, .int .i64 0, .int .i64 0, .int .i64 0, .int .i64 0]
def msgOfW (ws : List (List UInt8)) : Msg := ⟨kindF ((ws[3]?).getD []), numAt ws 2, numAt ws 0, numAt ws 1, numAt ws 4, numAt ws 5, numAt ws 6, numAt ws 7, numAt ws 8⟩
def allNums (ws : List (List UInt8)) : Prop := ∀ j, j < 9 → j ≠ 3 → (numF ((ws[j]?).getD [])).isSome = true
theorem list_nine {α : Type} {l : List α} (h : l.length = 9) : ∃ a b c d e f g x y, l = [a, b, c, d, e, f, g, x, y] := by
  match l, h with
  | [a, b, c, d, e, f, g, x, y], _ => exact ⟨a, b, c, d, e, f, g, x, y, rfl⟩
theorem parseW_nine {ws : List (List UInt8)} (h : ws.length = 9) : (allNums ws → parseW ws = if rightM (msgOfW ws) = true then some (msgOfW ws) else none) ∧ (¬ allNums ws → parseW ws = none) := by
  obtain ⟨a, b, c, d, e, f, g, x, y, rfl⟩ := list_nine h
  have hm : msgW a b c d e f g x y = msgOfW [a, b, c, d, e, f, g, x, y] := rfl
  have hall : allNums [a, b, c, d, e, f, g, x, y] ↔ numsOk [a, b, c, e, f, g, x, y] = true := by
    simp only [numsOk, List.all_cons, List.all_nil, Bool.and_eq_true, and_true]
    constructor
    · intro hh
      exact ⟨hh 0 (by decide) (by decide), hh 1 (by decide) (by decide), hh 2 (by decide) (by decide), hh 4 (by decide) (by decide), hh 5 (by decide) (by decide), hh 6 (by decide) (by decide), hh 7 (by decide) (by decide), hh 8 (by decide) (by decide)⟩
    · rintro ⟨h0, h1, h2, h4, h5, h6, h7, h8⟩ j hj h3
      have : j = 0 ∨ j = 1 ∨ j = 2 ∨ j = 4 ∨ j = 5 ∨ j = 6 ∨ j = 7 ∨ j = 8 := by omega
      rcases this with rfl | rfl | rfl | rfl | rfl | rfl | rfl | rfl <;> assumption
  rw [hall, parseW, hm]
  constructor
  · intro hn; rw [hn]; simp
  · intro hn; rw [if_neg (fun hh => hn hh.1)]
theorem parseW_bad {ws : List (List UInt8)} (h : ∃ j, j < 9 ∧ j ≠ 3 ∧ numF ((ws[j]?).getD []) = none) : parseW ws = none := by
  by_cases h9 : ws.length = 9
  · refine (parseW_nine h9).2 fun hh => ?_
    obtain ⟨j, h1, h2, h3⟩ := h
    have := hh j h1 h2
    rw [h3] at this
    cases this
  · unfold parseW
    split
    · exact absurd rfl h9
    · rfl
theorem one_zeroM : zeroM.all (·.oneCell') = true := by simp [zeroM, Value.oneCell']
theorem parseW_len {ws : List (List UInt8)} (h : ws.length ≠ 9) : parseW ws = none := by
  unfold parseW
  split
  · exact absurd rfl h
  · rfl
set_option maxRecDepth 20000 in
set_option maxHeartbeats 8000000 in
theorem parse_short (l : List UInt8) (hl : l.length ≤ 100000) (w : World) (hm : MX w) (h9 : (splitW l).length ≠ 9) :
    Calls Tryd.prog 40 #[.string (strB l)] w (ParseIs (parseM l) w) := by
  have HP := Lib.hid (show parseM l = none from parseW_len h9)
  have HS := Lib.hid (split_any l hl (w.alloc (.cells zeroM 62)) (hm.below (n := 0) ((Below.refl _ _).alloc (Nat.le_refl _) _)))
  clear hm
  have h9' : (((splitW l).length : Int) != 9) = true := by simpa using (fun h => h9 (by omega))
  go_enter Tryd.func40, Tryd.ntmps40
  go_wp2_with fail
  refine HS.out.mono ?_
  rintro e w1 ⟨v, rfl, hrow, hb⟩
  have HB := Lib.hid (((Below.refl w.heap.size w).alloc (Nat.le_refl _) (.cells zeroM 62)).trans (hb.mono (by simp)))
  have HM := Lib.hid ((Blk.new w zeroM 62 w.heap.size rfl).below hb (by simp))
  clear hb
  obtain ⟨a, c, rfl⟩ : ∃ a c, v = .slice a (splitW l).length c := by
    rcases hrow with ⟨h1, h2⟩ | ⟨_, b, c, h1, _⟩
    · exact ⟨_, _, by rw [h1]; exact h2⟩
    · exact ⟨_, _, h1⟩
  clear hrow h9
  go_wp2_with (first
    | (refine load_blk (by rfl) 62 _ (by rfl) w.heap.size (by rfl) zeroM 62 HM.out _ Tryd.underlying62 rfl (by kernel_rfl) ?_)
    | (refine store_blk (by rfl) 62 _ _ (by rfl) w.heap.size (by rfl) zeroM zeroM 62 HM.out (by rfl) rfl (by kernel_rfl) one_zeroM ?_))
  refine bodyPost_ret (results_blk_tmp (cs := zeroM) rfl rfl (HM.out.setCells zeroM rfl) Tryd.underlying62 rfl (by kernel_rfl)) rfl ⟨by rw [HP.out]; rfl, Below.setCells _ _ _ HB.out (Nat.le_refl _)⟩
def ptrsC (M S C : Nat) : Array Value := #[.pointer (some ⟨M, 2, none⟩), .pointer (some ⟨M, 3, none⟩), .pointer (some ⟨S, 0, none⟩), .pointer none, .pointer (some ⟨M, 4, none⟩), .pointer (some ⟨M, 5, none⟩), .pointer (some ⟨M, 6, none⟩), .pointer (some ⟨M, 7, none⟩), .pointer (some ⟨C, 0, none⟩)]
def ptrK (M S C : Nat) : Nat → Option Addr
  | 0 => some ⟨M, 2, none⟩
  | 1 => some ⟨M, 3, none⟩
  | 2 => some ⟨S, 0, none⟩
  | 4 => some ⟨M, 4, none⟩
  | 5 => some ⟨M, 5, none⟩
  | 6 => some ⟨M, 6, none⟩
  | 7 => some ⟨M, 7, none⟩
  | 8 => some ⟨C, 0, none⟩
  | _ => none
theorem ptr_k (M S C k : Nat) (hk : k < 9) : ∀ W, (Instr.index 142 (.agg (ptrsC M S C)) (.int .i64 (k : Int))).run Tryd.prog W = .ok (.pointer (ptrK M S C k)) W := by
  have : k = 0 ∨ k = 1 ∨ k = 2 ∨ k = 3 ∨ k = 4 ∨ k = 5 ∨ k = 6 ∨ k = 7 ∨ k = 8 := by omega
  intro W
  rcases this with rfl | rfl | rfl | rfl | rfl | rfl | rfl | rfl | rfl <;> kernel_rfl
theorem ptr_at (M S C k : Nat) (z : Int) (hz : z = (k : Int)) (hk : k < 9) (a : Option Addr) (h : ptrK M S C k = a) : ∀ W, (Instr.index 142 (.agg (ptrsC M S C)) (.int .i64 z)).run Tryd.prog W = .ok (.pointer a) W := by
  subst hz h
  exact ptr_k M S C k hk
set_option maxRecDepth 20000 in
set_option maxHeartbeats 8000000 in
theorem parse_nine (l : List UInt8) (hl : l.length ≤ 100000) (w : World) (hm : MX w) (h9 : (splitW l).length = 9) :
    Calls Tryd.prog 40 #[.string (strB l)] w (ParseIs (parseM l) w) := by
  have HS := Lib.hid (split_any l hl (w.alloc (.cells zeroM 62)) (hm.below (n := 0) ((Below.refl _ _).alloc (Nat.le_refl _) _)))
  have HWL := Lib.hid (split_bytes l)
  have HPM := Lib.hid (show parseM l = parseW (splitW l) from rfl)
  clear hm
  unfold SplitIs at HS
  generalize splitW l = ws at HS h9 HWL HPM
  go_enter Tryd.func40, Tryd.ntmps40
  go_wp2_with fail
  refine HS.out.mono ?_
  rintro e w1 ⟨v, rfl, hrow, hb⟩
  have hM := (Blk.new w zeroM 62 w.heap.size rfl).below hb (by simp)
  have hB := (((Below.refl w.heap.size w).alloc (Nat.le_refl _) (.cells zeroM 62)).trans (hb.mono (by simp)))
  obtain ⟨rb, cap, rfl, hcap, hrb, hcells⟩ : ∃ b c, v = .slice (some ⟨b, 0, none⟩) 9 c ∧ 9 ≤ c ∧ b < w1.heap.size ∧ ∀ j, (h : j < ws.length) → w1.cell? ⟨b, j, none⟩ = some (.string (strB ws[j])) := by
    rcases hrow with ⟨h1, h2⟩ | ⟨_, b, c, h1, h2, h3, h4⟩
    · rw [h1] at h9; cases h9
    · exact ⟨b, c, by rw [h1, h9], by omega, h3, h4⟩
  have hne : rb ≠ w.heap.size := by
    rintro rfl
    have h1 := hcells 0 (by omega)
    have h2 : w1.cell? ⟨w.heap.size, 0, none⟩ = some (.int .i64 0) := hM.cell 0 rfl
    rw [h1] at h2
    cases h2
  have HPS := Lib.hid (show PS w rb w1.heap.size (w1.heap.size + 1) ws (cellsK ws 0) (pk 0 2 (numAt ws 2)) (pk 0 8 (numAt ws 8)) ((w1.alloc (.cells #[.int .i64 0] 2)).alloc (.cells #[.int .i64 0] 2)) from
    ⟨(hM.old _).old _, (Blk.new w1 #[.int .i64 0] 2 w1.heap.size rfl).old _, Blk.new _ _ _ _ (by simp), fun j hj => by rw [cell_old _ _ _ (by simp; omega), cell_old _ _ _ hrb]; exact hcells j hj, (hB.alloc hB.size _).alloc (by have := hB.size; simp; omega) _, hne, hM.lt, hrb, Nat.lt_succ_self _⟩)
  have hsz := hM.lt
  clear hb hM hB hrow hcells HS
  go_wp2_with fail
  replace HPS := Lib.hid (HPS.out.below ((Below.refl _ _).alloc (Nat.le_refl _) (.cells (ptrsC w.heap.size w1.heap.size (w1.heap.size + 1)) 142)))
  unfold ptrsC at HPS
  generalize ((w1.alloc (.cells #[.int .i64 0] 2)).alloc (.cells #[.int .i64 0] 2)).alloc _ = w2 at HPS ⊢
  generalize hS : w1.heap.size = S at HPS ⊢
  generalize hC : S + 1 = C at HPS ⊢
  have i0 := ptr_at w.heap.size S C 0 0 rfl (by decide) (some ⟨w.heap.size, 2, none⟩) rfl
  have i1 := ptr_at w.heap.size S C 1 1 rfl (by decide) (some ⟨w.heap.size, 3, none⟩) rfl
  have i2 := ptr_at w.heap.size S C 2 2 rfl (by decide) (some ⟨S, 0, none⟩) rfl
  have i3 := ptr_at w.heap.size S C 3 3 rfl (by decide) none rfl
  have i4 := ptr_at w.heap.size S C 4 4 rfl (by decide) (some ⟨w.heap.size, 4, none⟩) rfl
  have i5 := ptr_at w.heap.size S C 5 5 rfl (by decide) (some ⟨w.heap.size, 5, none⟩) rfl
  have i6 := ptr_at w.heap.size S C 6 6 rfl (by decide) (some ⟨w.heap.size, 6, none⟩) rfl
  have i7 := ptr_at w.heap.size S C 7 7 rfl (by decide) (some ⟨w.heap.size, 7, none⟩) rfl
  have i8 := ptr_at w.heap.size S C 8 8 rfl (by decide) (some ⟨C, 0, none⟩) rfl
  unfold ptrsC at i0 i1 i2 i3 i4 i5 i6 i7 i8
  go_loopw [26] (fun i wr => ∃ k : Nat, k ≤ 9 ∧ i = .int .i64 k ∧ PS w rb S C ws (cellsK ws k) (pk k 2 (numAt ws 2)) (pk k 8 (numAt ws 8)) wr ∧ Hid (∀ j, j < k → j ≠ 3 → ((numF ((ws[j]?).getD [])).isSome = true))) (fun i _ => 9 - (intOf i).toNat)
  case atStart => exact ⟨0, by omega, rfl, HPS.out, Lib.hid fun j h => absurd h (Nat.not_lt_zero _)⟩
  case round =>
    obtain ⟨k, hk, rfl, hps, HOK⟩ := hrel
    have HP := Lib.hid hps
    clear hps HPS
    by_cases hlt : k < 9
    · have : k = 0 ∨ k = 1 ∨ k = 2 ∨ k = 3 ∨ k = 4 ∨ k = 5 ∨ k = 6 ∨ k = 7 ∨ k = 8 := by omega
      rcases this with rfl | rfl | rfl | rfl | rfl | rfl | rfl | rfl | rfl
      · have ck : wr.cell? ⟨rb, 0, none⟩ = some (.string (strB (ws[0]'(by omega)))) := HP.out.row 0 (by omega)
        have HW := Lib.hid (wnumber_any (ws[0]'(by omega)) (Nat.le_trans (HWL.out _ (List.getElem_mem _)) hl) wr)
        have HX : Hid ((ws[0]?).getD [] = ws[0]'(by omega)) := Lib.hid (by rw [List.getElem?_eq_getElem (by omega)]; rfl)
        generalize ws[0]'(by omega) = x at ck HW HX
        go_wp2_with fail
        refine HW.out.mono ?_
        rintro e w3 ⟨rfl, hb3⟩
        have HP2 := Lib.hid (HP.out.below hb3)
        clear hb3 ck HP
        cases hn : numF x with
        | none =>
          have HPN := Lib.hid (show parseM l = none by rw [HPM.out]; exact parseW_bad ⟨0, by omega, by decide, by rw [HX.out]; exact hn⟩)
          clear hn
          go_wp2_with (refine store_blk (by rfl) 62 _ _ (by rfl) w.heap.size (by rfl) _ zeroM 62 HP2.out.m (by rfl) rfl (by kernel_rfl) one_zeroM ?_)
          refine bodyPost_ret (results_blk_tmp (cs := zeroM) rfl rfl (HP2.out.m.setCells zeroM rfl) Tryd.underlying62 rfl (by kernel_rfl)) rfl ⟨by rw [HPN.out]; rfl, Below.setCells _ _ _ HP2.out.bel (Nat.le_refl _)⟩
        | some n =>
          have HN := Lib.hid hn
          clear hn
          have ct := (HP2.out.m.cell 2 rfl)
          have ft := (HP2.out.m.free 2)
          have HP3 := Lib.hid (HP2.out.putM 2 (.int .i64 n))
          go_wp2_with fail
          go_roundw
          case rel =>
            have hA : numAt ws 0 = n := by unfold numAt; rw [HX.out, HN.out]; rfl
            refine ⟨0 + 1, by omega, by simp, ?_, Lib.hid fun j hj h3 => ?_⟩
            · simpa [cellsK, pk, hA] using HP3.out
            · by_cases e : j = 0
              · subst e; rw [HX.out, HN.out]; rfl
              · exact HOK.out j (by omega) h3
          case measure => first | (simp [intOf]; done) | (simp [intOf]; omega) | decide
      · have ck : wr.cell? ⟨rb, 1, none⟩ = some (.string (strB (ws[1]'(by omega)))) := HP.out.row 1 (by omega)
        have HW := Lib.hid (wnumber_any (ws[1]'(by omega)) (Nat.le_trans (HWL.out _ (List.getElem_mem _)) hl) wr)
        have HX : Hid ((ws[1]?).getD [] = ws[1]'(by omega)) := Lib.hid (by rw [List.getElem?_eq_getElem (by omega)]; rfl)
        generalize ws[1]'(by omega) = x at ck HW HX
        go_wp2_with fail
        refine HW.out.mono ?_
        rintro e w3 ⟨rfl, hb3⟩
        have HP2 := Lib.hid (HP.out.below hb3)
        clear hb3 ck HP
        cases hn : numF x with
        | none =>
          have HPN := Lib.hid (show parseM l = none by rw [HPM.out]; exact parseW_bad ⟨1, by omega, by decide, by rw [HX.out]; exact hn⟩)
          clear hn
          go_wp2_with (refine store_blk (by rfl) 62 _ _ (by rfl) w.heap.size (by rfl) _ zeroM 62 HP2.out.m (by rfl) rfl (by kernel_rfl) one_zeroM ?_)
          refine bodyPost_ret (results_blk_tmp (cs := zeroM) rfl rfl (HP2.out.m.setCells zeroM rfl) Tryd.underlying62 rfl (by kernel_rfl)) rfl ⟨by rw [HPN.out]; rfl, Below.setCells _ _ _ HP2.out.bel (Nat.le_refl _)⟩
        | some n =>
          have HN := Lib.hid hn
          clear hn
          have ct := (HP2.out.m.cell 3 rfl)
          have ft := (HP2.out.m.free 3)
          have HP3 := Lib.hid (HP2.out.putM 3 (.int .i64 n))
          go_wp2_with fail
          go_roundw
          case rel =>
            have hA : numAt ws 1 = n := by unfold numAt; rw [HX.out, HN.out]; rfl
            refine ⟨1 + 1, by omega, by simp, ?_, Lib.hid fun j hj h3 => ?_⟩
            · simpa [cellsK, pk, hA] using HP3.out
            · by_cases e : j = 1
              · subst e; rw [HX.out, HN.out]; rfl
              · exact HOK.out j (by omega) h3
          case measure => first | (simp [intOf]; done) | (simp [intOf]; omega) | decide
      · have ck : wr.cell? ⟨rb, 2, none⟩ = some (.string (strB (ws[2]'(by omega)))) := HP.out.row 2 (by omega)
        have HW := Lib.hid (wnumber_any (ws[2]'(by omega)) (Nat.le_trans (HWL.out _ (List.getElem_mem _)) hl) wr)
        have HX : Hid ((ws[2]?).getD [] = ws[2]'(by omega)) := Lib.hid (by rw [List.getElem?_eq_getElem (by omega)]; rfl)
        generalize ws[2]'(by omega) = x at ck HW HX
        go_wp2_with fail
        refine HW.out.mono ?_
        rintro e w3 ⟨rfl, hb3⟩
        have HP2 := Lib.hid (HP.out.below hb3)
        clear hb3 ck HP
        cases hn : numF x with
        | none =>
          have HPN := Lib.hid (show parseM l = none by rw [HPM.out]; exact parseW_bad ⟨2, by omega, by decide, by rw [HX.out]; exact hn⟩)
          clear hn
          go_wp2_with (refine store_blk (by rfl) 62 _ _ (by rfl) w.heap.size (by rfl) _ zeroM 62 HP2.out.m (by rfl) rfl (by kernel_rfl) one_zeroM ?_)
          refine bodyPost_ret (results_blk_tmp (cs := zeroM) rfl rfl (HP2.out.m.setCells zeroM rfl) Tryd.underlying62 rfl (by kernel_rfl)) rfl ⟨by rw [HPN.out]; rfl, Below.setCells _ _ _ HP2.out.bel (Nat.le_refl _)⟩
        | some n =>
          have HN := Lib.hid hn
          clear hn
          have ct := (HP2.out.s.cell 0 rfl)
          have ft := (HP2.out.s.free 0)
          have HP3 := Lib.hid (HP2.out.putS n)
          go_wp2_with fail
          go_roundw
          case rel =>
            have hA : numAt ws 2 = n := by unfold numAt; rw [HX.out, HN.out]; rfl
            refine ⟨2 + 1, by omega, by simp, ?_, Lib.hid fun j hj h3 => ?_⟩
            · simpa [cellsK, pk, hA] using HP3.out
            · by_cases e : j = 2
              · subst e; rw [HX.out, HN.out]; rfl
              · exact HOK.out j (by omega) h3
          case measure => first | (simp [intOf]; done) | (simp [intOf]; omega) | decide
      · have ck : wr.cell? ⟨rb, 3, none⟩ = some (.string (strB (ws[3]'(by omega)))) := HP.out.row 3 (by omega)
        have HX : Hid ((ws[3]?).getD [] = ws[3]'(by omega)) := Lib.hid (by rw [List.getElem?_eq_getElem (by omega)]; rfl)
        generalize ws[3]'(by omega) = x at ck HX
        go_wp2_with fail
        refine (kindOf_any x wr).mono ?_
        rintro e w3 ⟨rfl, hb3⟩
        have HP2 := Lib.hid (HP.out.below hb3)
        clear hb3 ck HP
        have ct := (HP2.out.m.cell 0 rfl)
        have ft := (HP2.out.m.free 0)
        have HP3 := Lib.hid (HP2.out.putM 0 (.int .i64 (kindF x)))
        go_wp2_with fail
        go_roundw
        case rel =>
          refine ⟨3 + 1, by omega, by simp, ?_, Lib.hid fun j hj h3 => ?_⟩
          · simpa [cellsK, pk, HX.out] using HP3.out
          · exact HOK.out j (by omega) h3
        case measure => first | (simp [intOf]; done) | (simp [intOf]; omega) | decide
      · have ck : wr.cell? ⟨rb, 4, none⟩ = some (.string (strB (ws[4]'(by omega)))) := HP.out.row 4 (by omega)
        have HW := Lib.hid (wnumber_any (ws[4]'(by omega)) (Nat.le_trans (HWL.out _ (List.getElem_mem _)) hl) wr)
        have HX : Hid ((ws[4]?).getD [] = ws[4]'(by omega)) := Lib.hid (by rw [List.getElem?_eq_getElem (by omega)]; rfl)
        generalize ws[4]'(by omega) = x at ck HW HX
        go_wp2_with fail
        refine HW.out.mono ?_
        rintro e w3 ⟨rfl, hb3⟩
        have HP2 := Lib.hid (HP.out.below hb3)
        clear hb3 ck HP
        cases hn : numF x with
        | none =>
          have HPN := Lib.hid (show parseM l = none by rw [HPM.out]; exact parseW_bad ⟨4, by omega, by decide, by rw [HX.out]; exact hn⟩)
          clear hn
          go_wp2_with (refine store_blk (by rfl) 62 _ _ (by rfl) w.heap.size (by rfl) _ zeroM 62 HP2.out.m (by rfl) rfl (by kernel_rfl) one_zeroM ?_)
          refine bodyPost_ret (results_blk_tmp (cs := zeroM) rfl rfl (HP2.out.m.setCells zeroM rfl) Tryd.underlying62 rfl (by kernel_rfl)) rfl ⟨by rw [HPN.out]; rfl, Below.setCells _ _ _ HP2.out.bel (Nat.le_refl _)⟩
        | some n =>
          have HN := Lib.hid hn
          clear hn
          have ct := (HP2.out.m.cell 4 rfl)
          have ft := (HP2.out.m.free 4)
          have HP3 := Lib.hid (HP2.out.putM 4 (.int .i64 n))
          go_wp2_with fail
          go_roundw
          case rel =>
            have hA : numAt ws 4 = n := by unfold numAt; rw [HX.out, HN.out]; rfl
            refine ⟨4 + 1, by omega, by simp, ?_, Lib.hid fun j hj h3 => ?_⟩
            · simpa [cellsK, pk, hA] using HP3.out
            · by_cases e : j = 4
              · subst e; rw [HX.out, HN.out]; rfl
              · exact HOK.out j (by omega) h3
          case measure => first | (simp [intOf]; done) | (simp [intOf]; omega) | decide
      · have ck : wr.cell? ⟨rb, 5, none⟩ = some (.string (strB (ws[5]'(by omega)))) := HP.out.row 5 (by omega)
        have HW := Lib.hid (wnumber_any (ws[5]'(by omega)) (Nat.le_trans (HWL.out _ (List.getElem_mem _)) hl) wr)
        have HX : Hid ((ws[5]?).getD [] = ws[5]'(by omega)) := Lib.hid (by rw [List.getElem?_eq_getElem (by omega)]; rfl)
        generalize ws[5]'(by omega) = x at ck HW HX
        go_wp2_with fail
        refine HW.out.mono ?_
        rintro e w3 ⟨rfl, hb3⟩
        have HP2 := Lib.hid (HP.out.below hb3)
        clear hb3 ck HP
        cases hn : numF x with
        | none =>
          have HPN := Lib.hid (show parseM l = none by rw [HPM.out]; exact parseW_bad ⟨5, by omega, by decide, by rw [HX.out]; exact hn⟩)
          clear hn
          go_wp2_with (refine store_blk (by rfl) 62 _ _ (by rfl) w.heap.size (by rfl) _ zeroM 62 HP2.out.m (by rfl) rfl (by kernel_rfl) one_zeroM ?_)
          refine bodyPost_ret (results_blk_tmp (cs := zeroM) rfl rfl (HP2.out.m.setCells zeroM rfl) Tryd.underlying62 rfl (by kernel_rfl)) rfl ⟨by rw [HPN.out]; rfl, Below.setCells _ _ _ HP2.out.bel (Nat.le_refl _)⟩
        | some n =>
          have HN := Lib.hid hn
          clear hn
          have ct := (HP2.out.m.cell 5 rfl)
          have ft := (HP2.out.m.free 5)
          have HP3 := Lib.hid (HP2.out.putM 5 (.int .i64 n))
          go_wp2_with fail
          go_roundw
          case rel =>
            have hA : numAt ws 5 = n := by unfold numAt; rw [HX.out, HN.out]; rfl
            refine ⟨5 + 1, by omega, by simp, ?_, Lib.hid fun j hj h3 => ?_⟩
            · simpa [cellsK, pk, hA] using HP3.out
            · by_cases e : j = 5
              · subst e; rw [HX.out, HN.out]; rfl
              · exact HOK.out j (by omega) h3
          case measure => first | (simp [intOf]; done) | (simp [intOf]; omega) | decide
      · have ck : wr.cell? ⟨rb, 6, none⟩ = some (.string (strB (ws[6]'(by omega)))) := HP.out.row 6 (by omega)
        have HW := Lib.hid (wnumber_any (ws[6]'(by omega)) (Nat.le_trans (HWL.out _ (List.getElem_mem _)) hl) wr)
        have HX : Hid ((ws[6]?).getD [] = ws[6]'(by omega)) := Lib.hid (by rw [List.getElem?_eq_getElem (by omega)]; rfl)
        generalize ws[6]'(by omega) = x at ck HW HX
        go_wp2_with fail
        refine HW.out.mono ?_
        rintro e w3 ⟨rfl, hb3⟩
        have HP2 := Lib.hid (HP.out.below hb3)
        clear hb3 ck HP
        cases hn : numF x with
        | none =>
          have HPN := Lib.hid (show parseM l = none by rw [HPM.out]; exact parseW_bad ⟨6, by omega, by decide, by rw [HX.out]; exact hn⟩)
          clear hn
          go_wp2_with (refine store_blk (by rfl) 62 _ _ (by rfl) w.heap.size (by rfl) _ zeroM 62 HP2.out.m (by rfl) rfl (by kernel_rfl) one_zeroM ?_)
          refine bodyPost_ret (results_blk_tmp (cs := zeroM) rfl rfl (HP2.out.m.setCells zeroM rfl) Tryd.underlying62 rfl (by kernel_rfl)) rfl ⟨by rw [HPN.out]; rfl, Below.setCells _ _ _ HP2.out.bel (Nat.le_refl _)⟩
        | some n =>
          have HN := Lib.hid hn
          clear hn
          have ct := (HP2.out.m.cell 6 rfl)
          have ft := (HP2.out.m.free 6)
          have HP3 := Lib.hid (HP2.out.putM 6 (.int .i64 n))
          go_wp2_with fail
          go_roundw
          case rel =>
            have hA : numAt ws 6 = n := by unfold numAt; rw [HX.out, HN.out]; rfl
            refine ⟨6 + 1, by omega, by simp, ?_, Lib.hid fun j hj h3 => ?_⟩
            · simpa [cellsK, pk, hA] using HP3.out
            · by_cases e : j = 6
              · subst e; rw [HX.out, HN.out]; rfl
              · exact HOK.out j (by omega) h3
          case measure => first | (simp [intOf]; done) | (simp [intOf]; omega) | decide
      · have ck : wr.cell? ⟨rb, 7, none⟩ = some (.string (strB (ws[7]'(by omega)))) := HP.out.row 7 (by omega)
        have HW := Lib.hid (wnumber_any (ws[7]'(by omega)) (Nat.le_trans (HWL.out _ (List.getElem_mem _)) hl) wr)
        have HX : Hid ((ws[7]?).getD [] = ws[7]'(by omega)) := Lib.hid (by rw [List.getElem?_eq_getElem (by omega)]; rfl)
        generalize ws[7]'(by omega) = x at ck HW HX
        go_wp2_with fail
        refine HW.out.mono ?_
        rintro e w3 ⟨rfl, hb3⟩
        have HP2 := Lib.hid (HP.out.below hb3)
        clear hb3 ck HP
        cases hn : numF x with
        | none =>
          have HPN := Lib.hid (show parseM l = none by rw [HPM.out]; exact parseW_bad ⟨7, by omega, by decide, by rw [HX.out]; exact hn⟩)
          clear hn
          go_wp2_with (refine store_blk (by rfl) 62 _ _ (by rfl) w.heap.size (by rfl) _ zeroM 62 HP2.out.m (by rfl) rfl (by kernel_rfl) one_zeroM ?_)
          refine bodyPost_ret (results_blk_tmp (cs := zeroM) rfl rfl (HP2.out.m.setCells zeroM rfl) Tryd.underlying62 rfl (by kernel_rfl)) rfl ⟨by rw [HPN.out]; rfl, Below.setCells _ _ _ HP2.out.bel (Nat.le_refl _)⟩
        | some n =>
          have HN := Lib.hid hn
          clear hn
          have ct := (HP2.out.m.cell 7 rfl)
          have ft := (HP2.out.m.free 7)
          have HP3 := Lib.hid (HP2.out.putM 7 (.int .i64 n))
          go_wp2_with fail
          go_roundw
          case rel =>
            have hA : numAt ws 7 = n := by unfold numAt; rw [HX.out, HN.out]; rfl
            refine ⟨7 + 1, by omega, by simp, ?_, Lib.hid fun j hj h3 => ?_⟩
            · simpa [cellsK, pk, hA] using HP3.out
            · by_cases e : j = 7
              · subst e; rw [HX.out, HN.out]; rfl
              · exact HOK.out j (by omega) h3
          case measure => first | (simp [intOf]; done) | (simp [intOf]; omega) | decide
      · have ck : wr.cell? ⟨rb, 8, none⟩ = some (.string (strB (ws[8]'(by omega)))) := HP.out.row 8 (by omega)
        have HW := Lib.hid (wnumber_any (ws[8]'(by omega)) (Nat.le_trans (HWL.out _ (List.getElem_mem _)) hl) wr)
        have HX : Hid ((ws[8]?).getD [] = ws[8]'(by omega)) := Lib.hid (by rw [List.getElem?_eq_getElem (by omega)]; rfl)
        generalize ws[8]'(by omega) = x at ck HW HX
        go_wp2_with fail
        refine HW.out.mono ?_
        rintro e w3 ⟨rfl, hb3⟩
        have HP2 := Lib.hid (HP.out.below hb3)
        clear hb3 ck HP
        cases hn : numF x with
        | none =>
          have HPN := Lib.hid (show parseM l = none by rw [HPM.out]; exact parseW_bad ⟨8, by omega, by decide, by rw [HX.out]; exact hn⟩)
          clear hn
          go_wp2_with (refine store_blk (by rfl) 62 _ _ (by rfl) w.heap.size (by rfl) _ zeroM 62 HP2.out.m (by rfl) rfl (by kernel_rfl) one_zeroM ?_)
          refine bodyPost_ret (results_blk_tmp (cs := zeroM) rfl rfl (HP2.out.m.setCells zeroM rfl) Tryd.underlying62 rfl (by kernel_rfl)) rfl ⟨by rw [HPN.out]; rfl, Below.setCells _ _ _ HP2.out.bel (Nat.le_refl _)⟩
        | some n =>
          have HN := Lib.hid hn
          clear hn
          have ct := (HP2.out.c.cell 0 rfl)
          have ft := (HP2.out.c.free 0)
          have HP3 := Lib.hid (HP2.out.putC n)
          go_wp2_with fail
          go_roundw
          case rel =>
            have hA : numAt ws 8 = n := by unfold numAt; rw [HX.out, HN.out]; rfl
            refine ⟨8 + 1, by omega, by simp, ?_, Lib.hid fun j hj h3 => ?_⟩
            · simpa [cellsK, pk, hA] using HP3.out
            · by_cases e : j = 8
              · subst e; rw [HX.out, HN.out]; rfl
              · exact HOK.out j (by omega) h3
          case measure => first | (simp [intOf]; done) | (simp [intOf]; omega) | decide
    · obtain rfl : k = 9 := by omega
      have HALL := Lib.hid (show allNums ws from HOK.out)
      have HMSG := Lib.hid (show PS w rb S C ws (msgOfW ws).cells (numAt ws 2) (numAt ws 8) ((wr.setCell ⟨w.heap.size, 1, none⟩ (.int .i64 (numAt ws 2))).setCell ⟨w.heap.size, 8, none⟩ (.int .i64 (numAt ws 8))) from (HP.out.putM 1 _).putM 8 _)
      have cs : wr.cell? ⟨S, 0, none⟩ = some (.int .i64 (numAt ws 2)) := HP.out.s.cell 0 rfl
      have cc : wr.cell? ⟨C, 0, none⟩ = some (.int .i64 (numAt ws 8)) := HP.out.c.cell 0 rfl
      have cm1 : wr.cell? ⟨w.heap.size, 1, none⟩ = some (.int .i64 0) := HP.out.m.cell 1 rfl
      have cm8 : wr.cell? ⟨w.heap.size, 8, none⟩ = some (.int .i64 0) := HP.out.m.cell 8 rfl
      have fm1 := HP.out.m.free 1
      have fm8 := HP.out.m.free 8
      have nS : ¬ S = w.heap.size := by have := HP.out.ms; omega
      have nC : ¬ C = w.heap.size := by have := HP.out.ms; have := HP.out.sc; omega
      have HPW := Lib.hid ((parseW_nine h9).1 HALL.out)
      clear i0 i1 i2 i3 i4 i5 i6 i7 i8 HOK HP hlt hk
      generalize msgOfW ws = m at HMSG HPW
      generalize numAt ws 2 = n2 at HMSG cs
      generalize numAt ws 8 = n8 at HMSG cc
      go_upto_region 17 with fail
      generalize (wr.setCell ⟨w.heap.size, 1, none⟩ (.int .i64 n2)).setCell ⟨w.heap.size, 8, none⟩ (.int .i64 n8) = W5 at HMSG ⊢
      clear cs cc cm1 cm8 fm1 fm8
      go_wp2_with (refine load_blk (by rfl) 62 _ (by rfl) w.heap.size (by rfl) m.cells 62 HMSG.out.m _ Tryd.underlying62 rfl (by kernel_rfl) ?_)
      refine (mright_any m W5).mono ?_
      rintro e w6 ⟨rfl, hb6⟩
      have HM6 := Lib.hid (HMSG.out.below hb6)
      clear hb6 HMSG
      cases hr : rightM m with
      | false =>
        have HPN := Lib.hid (show parseM l = none by rw [HPM.out, HPW.out, hr]; rfl)
        clear hr
        go_wp2_with (refine store_blk (by rfl) 62 _ _ (by rfl) w.heap.size (by rfl) _ zeroM 62 HM6.out.m (by rfl) rfl (by kernel_rfl) one_zeroM ?_)
        refine bodyPost_ret (results_blk_tmp (cs := zeroM) rfl rfl (HM6.out.m.setCells zeroM rfl) Tryd.underlying62 rfl (by kernel_rfl)) rfl ⟨by rw [HPN.out]; rfl, Below.setCells _ _ _ HM6.out.bel (Nat.le_refl _)⟩
      | true =>
        have HPN := Lib.hid (show parseM l = some m by rw [HPM.out, HPW.out, hr]; rfl)
        clear hr
        go_wp2_with (first
          | (refine load_blk (by rfl) 62 _ (by rfl) w.heap.size (by rfl) m.cells 62 HM6.out.m _ Tryd.underlying62 rfl (by kernel_rfl) ?_)
          | (refine store_blk (by rfl) 62 _ _ (by rfl) w.heap.size (by rfl) _ m.cells 62 HM6.out.m (by rfl) rfl (by kernel_rfl) (one_msg m) ?_))
        refine bodyPost_ret (results_blk_tmp (cs := m.cells) rfl rfl (HM6.out.m.setCells m.cells rfl) Tryd.underlying62 rfl (by kernel_rfl)) rfl ⟨by rw [HPN.out]; rfl, Below.setCells _ _ _ HM6.out.bel (Nat.le_refl _)⟩
theorem repParse_any (l : List UInt8) (hl : l.length ≤ 100000) (w : World) (hm : MX w) : Calls Tryd.prog 40 #[.string (strB l)] w (ParseIs (parseM l) w) := by
  by_cases h9 : (splitW l).length = 9
  · exact parse_nine l hl w hm h9
  · exact parse_short l hl w hm h9
end Go.Proofs.YtmkcooamgojbpaaDoor.Reports

/- damperref35.Line at a tick; damperref36.text. -/
namespace Go.Proofs.YtmkcooamgojbpaaDoor.Lines
open Go.RowKit Go.Proofs.YtmkcooamgojbpaaDoor.Kit Go.Proofs.YtmkcooamgojbpaaDoor.Blk Go.Proofs.YtmkcooamgojbpaaDoor.Dec Go.Proofs.YtmkcooamgojbpaaDoor.Words Go.Proofs.YtmkcooamgojbpaaDoor.Octets
attribute [local go_sem ↓] Go.wp_at_zero Go.wp_at_succ
set_option linter.unusedVariables false

set_option maxRecDepth 20000 in
set_option maxHeartbeats 2000000 in
theorem rline_tick (n : Int) (h0 : -9223372036854775808 ≤ n) (h1 : n ≤ 9223372036854775807) (w : World) :
    Calls Tryd.prog 53 #[.agg #[.int .i64 2, .int .i64 0, .int .i64 n, .slice none 0 0]] w (LineIs (some ([116, 105, 99, 107] ++ 32 :: decB n)) w) := by
  have HS := Lib.hid (show (⟨#[116, 105, 99, 107, 32]⟩ : ByteArray) ++ strB (decB n) = strB ([116, 105, 99, 107] ++ 32 :: decB n) from strB_app [116, 105, 99, 107, 32] _)
  have hz : (strB (decB n)).size ≤ 100 := by
    rw [strB_size]
    have := dec_len h0 h1
    omega
  have HR := Lib.hid (show rightZ 2 0 n 0 = true from rfl)
  go_enter Tryd.func53, Tryd.ntmps53
  go_wp2_with fail
  refine (rsright_any 2 0 n none 0 0 _).mono ?_
  rintro e w1 ⟨rfl, hb⟩
  have HB := Lib.hid (((Below.refl w.heap.size w).alloc (Nat.le_refl _) (.cells (stepV 2 0 n none 0 0) 42)).trans (hb.mono (by simp)))
  have HX := Lib.hid ((Blk.new w (stepV 2 0 n none 0 0) 42 w.heap.size rfl).below hb (by simp))
  clear hb
  rw [HR.out]
  have c0 : w1.cell? ⟨w.heap.size, 0, none⟩ = some (.int .i64 2) := HX.out.cell 0 rfl
  have c2 : w1.cell? ⟨w.heap.size, 2, none⟩ = some (.int .i64 n) := HX.out.cell 2 rfl
  go_wp2_with fail
  refine (rdecimal_any n h0 h1 w1).mono ?_
  rintro e w2 ⟨rfl, hb⟩
  have HB2 := Lib.hid (HB.out.trans (hb.mono HB.out.size))
  clear hb c0 c2
  go_wp2_with fail
  go_ret2
  refine ⟨?_, HB2.out⟩
  show Ending.returned (.tuple #[.string ((⟨#[116, 105, 99, 107, 32]⟩ : ByteArray) ++ strB (decB n)), _]) = _
  rw [HS.out]
  rfl
theorem drop_tick (d : List UInt8) : ([116, 105, 99, 107] ++ 32 :: d : List UInt8).drop 5 = d := rfl
set_option maxRecDepth 20000 in
set_option maxHeartbeats 2000000 in
theorem text_any (n : Int) (h0 : -9223372036854775808 ≤ n) (h1 : n ≤ 9223372036854775807) (w : World) :
    Calls Tryd.prog 103 #[.int .i64 n] w fun e w' => e = .returned (.string (strB (decB n))) ∧ Below w.heap.size w w' := by
  have hl := dec_len h0 h1
  go_enter Tryd.func103, Tryd.ntmps103
  go_wp2_with fail
  refine (rline_tick n h0 h1 w).mono ?_
  rintro e w1 ⟨rfl, hb⟩
  have HB := Lib.hid hb
  clear hb
  have z1 : (strB ([116, 105, 99, 107] ++ 32 :: decB n)).size = (decB n).length + 5 := by rw [strB_size]; simp
  have z2 : (strB ([116, 105, 99, 107] ++ 32 :: decB n)).extract 5 ((decB n).length + 5) = strB (decB n) := by
    apply ByteArray.ext
    simp [strB]
  simp only [Option.getD_some]
  generalize strB ([116, 105, 99, 107] ++ 32 :: decB n) = S at z1 z2 ⊢
  go_wp2_with fail
  go_ret
  exact ⟨rfl, HB.out⟩
end Go.Proofs.YtmkcooamgojbpaaDoor.Lines

/- damperref36.Word. -/
namespace Go.Proofs.YtmkcooamgojbpaaDoor.Reports
open Go.RowKit Go.Proofs.YtmkcooamgojbpaaDoor.Kit Go.Proofs.YtmkcooamgojbpaaDoor.Blk Go.Proofs.YtmkcooamgojbpaaDoor.Dec Go.Proofs.YtmkcooamgojbpaaDoor.Words Go.Proofs.YtmkcooamgojbpaaDoor.Octets Go.Proofs.YtmkcooamgojbpaaDoor.Lines Go.Proofs.YtmkcooamgojbpaaDoor.Msgs
attribute [local go_sem ↓] Go.wp_at_zero Go.wp_at_succ
set_option linter.unusedVariables false

set_option maxRecDepth 20000 in
set_option maxHeartbeats 4000000 in
theorem rword_any (k : Int) (w : World) : Calls Tryd.prog 47 #[.int .i64 k] w fun e w' => e = .returned (.string (strB (wordK k))) ∧ Below w.heap.size w w' := by
  by_cases h1 : k < 1
  · have HE := Lib.hid (wordK_none (.inl h1))
    go_enter Tryd.func47, Tryd.ntmps47
    go_wp2_with fail
    go_ret
    exact ⟨by rw [HE.out]; rfl, (Below.refl _ _).alloc (Nat.le_refl _) _⟩
  · by_cases h2 : 9 < k
    · have HE := Lib.hid (wordK_none (.inr h2))
      go_enter Tryd.func47, Tryd.ntmps47
      go_wp2_with fail
      go_ret
      exact ⟨by rw [HE.out]; rfl, (Below.refl _ _).alloc (Nat.le_refl _) _⟩
    · rcases cases9 (k := k) ⟨by omega, by omega⟩ with rfl | rfl | rfl | rfl | rfl | rfl | rfl | rfl | rfl
      all_goals
        go_enter Tryd.func47, Tryd.ntmps47
        go_wp2_with fail
        go_ret
        exact ⟨rfl, (Below.refl _ _).alloc (Nat.le_refl _) _⟩
end Go.Proofs.YtmkcooamgojbpaaDoor.Reports
