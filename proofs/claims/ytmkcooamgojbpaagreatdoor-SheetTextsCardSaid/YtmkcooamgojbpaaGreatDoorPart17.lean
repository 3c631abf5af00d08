/- Parts of the proof: RepNum, SplitW, NumberW, RDecimal, Bld, RText. -/
import Derived.Test.YtmkcooamgojbpaaGreatDoorPart13
import Derived.Test.YtmkcooamgojbpaaGreatDoorPart16
import Derived.Test.YtmkcooamgojbpaaGreatDoorPart6
import Derived.Deep.DeepCutAuto
import Derived.Deep.CutBlock

/- report.number: a number's text, by a step's line. -/
namespace Go.Proofs.YtmkcooamgojbpaaGreatDoor.Lines
open Go.RowKit Go.Proofs.YtmkcooamgojbpaaGreatDoor.Kit Go.Proofs.YtmkcooamgojbpaaGreatDoor.Blk Go.Proofs.YtmkcooamgojbpaaGreatDoor.Dec Go.Proofs.YtmkcooamgojbpaaGreatDoor.Words Go.Proofs.YtmkcooamgojbpaaGreatDoor.Octets
attribute [local go_sem ↓] Go.wp_at_zero Go.wp_at_succ
set_option linter.unusedVariables false

/-- The library's variable MaxLen holds some integer. -/
def MX (w : World) : Prop := ∃ m, w.cell? ⟨0, 0, none⟩ = some (.int .i64 m)
theorem MX.below {w w' : World} {n : Nat} (h : MX w) (hb : Below w.heap.size w w') : MX w' := by
  obtain ⟨m, hm⟩ := h
  exact ⟨m, by rw [hb.cell (p := ⟨0, 0, none⟩) (World.block_lt_of_cell? _ _ hm)]; exact hm⟩
theorem cut_at {b : UInt8} {w : List UInt8} (h : b ∉ w) (m : List UInt8) : Lib.cut (w ++ b :: m) [b] = (w, m, true) := by
  unfold Lib.cut
  rw [index_app h]
  simp
theorem cut_none {b : UInt8} {l : List UInt8} (h : b ∉ l) : Lib.cut l [b] = (l, [], false) := by
  unfold Lib.cut
  rw [index_miss h]
  simp
theorem tick_free : (32 : UInt8) ∉ ([116, 105, 99, 107] : List UInt8) := by decide
/-- strings.Cut at one byte. -/
theorem cut_any (l : List UInt8) (b : UInt8) (w : World) (hm : MX w) (hl : l.length ≤ 100000) :
    Calls Tryz.prog 48 #[.string (strB l), .string ⟨#[b]⟩] w fun e w' => e = .returned (.tuple #[.string (strB (Lib.cut l [b]).1), .string (strB (Lib.cut l [b]).2.1), .bool (Lib.cut l [b]).2.2]) ∧ ∃ n, w' = w.drewN n := by
  obtain ⟨m, hm⟩ := hm
  have h := Shelf.strings_Cut (strB l) ⟨#[b]⟩ m w (by rw [strB_size]; omega) hm
  rw [strB_list, show (⟨#[b]⟩ : ByteArray).data.toList = [b] from rfl] at h
  exact h
end Go.Proofs.YtmkcooamgojbpaaGreatDoor.Lines

/- words.Split and words.Number. -/
namespace Go.Proofs.YtmkcooamgojbpaaGreatDoor.Lines
open Go.RowKit Go.Proofs.YtmkcooamgojbpaaGreatDoor.Kit Go.Proofs.YtmkcooamgojbpaaGreatDoor.Blk Go.Proofs.YtmkcooamgojbpaaGreatDoor.Dec Go.Proofs.YtmkcooamgojbpaaGreatDoor.Words Go.Proofs.YtmkcooamgojbpaaGreatDoor.Octets
attribute [local go_sem ↓] Go.wp_at_zero Go.wp_at_succ
set_option linter.unusedVariables false

/-- Words in memory: a slice, and its cells. -/
def StrRow (v : Value) (ws : List (List UInt8)) (W : World) : Prop :=
  (ws = [] ∧ v = .slice none 0 0) ∨ (0 < ws.length ∧ ∃ b c, v = .slice (some ⟨b, 0, none⟩) ws.length c ∧ ws.length ≤ c ∧ b < W.heap.size ∧ ∀ j, (h : j < ws.length) → W.cell? ⟨b, j, none⟩ = some (.string (strB ws[j])))
theorem StrRow.below {v : Value} {ws : List (List UInt8)} {W W' : World} (h : StrRow v ws W) (hb : Below W.heap.size W W') : StrRow v ws W' := by
  rcases h with h | ⟨h0, b, c, h1, h2, h3, h4⟩
  · exact .inl h
  · exact .inr ⟨h0, b, c, h1, h2, Nat.lt_of_lt_of_le h3 hb.size, fun j hj => by rw [hb.cell (p := ⟨b, j, none⟩) h3]; exact h4 j hj⟩
def SplitIs (l : List UInt8) (w : World) (e : Ending) (w' : World) : Prop := ∃ v, e = .returned v ∧ StrRow v (splitW l) w' ∧ Below w.heap.size w w'
theorem of_data {xs : List ByteArray} {ws : List (List UInt8)} (h : xs.map (·.data.toList) = ws) : xs = ws.map strB := by
  rw [← h, List.map_map]
  have : strB ∘ (fun x : ByteArray => x.data.toList) = id := funext fun x => by simp [strB]
  rw [this, List.map_id]
theorem count32 (l : List UInt8) : Lib.countB (strB l) ⟨#[32]⟩ = l.count 32 := by
  show Lib.count (strB l).data.toList [32] = _
  rw [strB_list, Lib.count_one]
theorem split_pieces (l : List UInt8) : Lib.splitB ⟨#[32]⟩ 0 (Lib.countB (strB l) ⟨#[32]⟩) (strB l) = (cutW 32 l).map strB := by
  apply of_data
  rw [Lib.splitB_data, strB_list, count32]
  exact splitK_cut 32 _ l (Nat.le_refl _)
theorem split_any (l : List UInt8) (hl : l.length ≤ 100000) (w : World) (hm : MX w) :
    Calls Tryz.prog 76 #[.string (strB l)] w (SplitIs l w) := by
  by_cases h : l = []
  · subst h
    have b1 : (strB []).toList = [] := by rw [ByteArray.toList_eq, strB_list]
    go_enter Tryz.func76, Tryz.ntmps76
    go_wp2_with fail
    go_ret
    exact ⟨_, rfl, .inl ⟨rfl, rfl⟩, Below.refl _ _⟩
  · obtain ⟨m, hm⟩ := hm
    have HS := Lib.hid (show SplitIs l w (.returned (.slice (some ⟨w.heap.size, 0, none⟩) (Lib.countB (strB l) ⟨#[32]⟩ + 1) (Lib.countB (strB l) ⟨#[32]⟩ + 1))) (w.alloc (.cells ((Lib.splitB ⟨#[32]⟩ 0 (Lib.countB (strB l) ⟨#[32]⟩) (strB l)).map Value.string).toArray 9)) from by
      have e1 : Lib.countB (strB l) ⟨#[32]⟩ + 1 = (cutW 32 l).length := by rw [cut_len, count32]
      have e2 : splitW l = cutW 32 l := by unfold splitW; rw [if_neg h]
      refine ⟨_, rfl, .inr ⟨?_, w.heap.size, (cutW 32 l).length, ?_, ?_, by simp, fun j hj => ?_⟩, (Below.refl _ _).alloc (Nat.le_refl _) _⟩
      · rw [e2]; exact List.length_pos_iff.2 (cutW_ne _ _)
      · rw [e1, e2]
      · rw [e2]; exact Nat.le_refl _
      · rw [e2] at hj
        refine cell_new _ _ _ _ _ _ rfl ?_
        rw [split_pieces]
        simp [hj, e2])
    have HC := Lib.hid (Shelf.strings_Split (strB l) ⟨#[32]⟩ m w (by rw [strB_size]; omega) hm (by decide))
    have b1 : ((strB l).toList == []) = false := by rw [ByteArray.toList_eq, strB_list]; simpa using h
    have b2 : ((strB l).toList.isEmpty) = false := by rw [ByteArray.toList_eq, strB_list]; simpa using h
    clear hm
    go_enter Tryz.func76, Tryz.ntmps76
    go_wp2_with fail
    refine HC.out.mono ?_
    rintro e w1 ⟨rfl, rfl⟩
    go_wp2_with fail
    go_ret
    exact HS.out
end Go.Proofs.YtmkcooamgojbpaaGreatDoor.Lines

/- words.Number. -/
namespace Go.Proofs.YtmkcooamgojbpaaGreatDoor.Lines
open Go.RowKit Go.Proofs.YtmkcooamgojbpaaGreatDoor.Kit Go.Proofs.YtmkcooamgojbpaaGreatDoor.Blk Go.Proofs.YtmkcooamgojbpaaGreatDoor.Dec Go.Proofs.YtmkcooamgojbpaaGreatDoor.Words Go.Proofs.YtmkcooamgojbpaaGreatDoor.Octets
attribute [local go_sem ↓] Go.wp_at_zero Go.wp_at_succ
set_option linter.unusedVariables false

theorem trim_part (l : List UInt8) : Part l (Lib.hasPrefix l [45]) (Lib.trimPrefix l [45]) := by
  cases l with
  | nil => exact ⟨fun h => (by cases h), fun _ => ⟨rfl, by simp⟩⟩
  | cons c l =>
    by_cases h : c = 45
    · subst h
      exact ⟨fun _ => by simp [Lib.trimPrefix, Lib.hasPrefix, List.isPrefixOf], fun h => by simp [Lib.hasPrefix, List.isPrefixOf] at h⟩
    · have h2 : ((45 : UInt8) == c) = false := by simpa using Ne.symm h
      exact ⟨fun h3 => by simp [Lib.hasPrefix, List.isPrefixOf, h2] at h3, fun _ => ⟨by simp [Lib.trimPrefix, Lib.hasPrefix, List.isPrefixOf, h2], by simp [h]⟩⟩
def NumIs (o : Option Int) (w : World) (e : Ending) (w' : World) : Prop := e = .returned (.tuple #[.int .i64 (o.getD 0), .bool o.isSome]) ∧ Below w.heap.size w w'
/-- The bytes of a string, in a block of their own. -/
theorem bytes_of (s : List UInt8) (w : World) : ∃ c W, (convert 9 49 (.string (strB s))).run Tryz.prog w = .ok (.slice (some ⟨w.heap.size, 0, none⟩) s.length c) W ∧ Below w.heap.size w W ∧ ∀ j, (h : j < s.length) → W.cell? ⟨w.heap.size, j, none⟩ = some (.int .u8 (s[j].toNat : Int)) := by
  have h := run_bytes_of_string (P := Tryz.prog) w 9 49 5 (strB s) Tryz.underlying9 Tryz.underlying49 Tryz.underlying5
  rw [strB_size] at h
  refine ⟨_, _, h, (Below.refl _ _).drew.alloc (Nat.le_refl _) _, fun j hj => ?_⟩
  have := World.cell?_alloc_mark w.drew (bytesRow (strB s) (grownCap w s.length 0 5)) 5 ((bytesRow (strB s) (grownCap w s.length 0 5)).size, (bytesRow (strB s) (grownCap w s.length 0 5)).size + 1) j
  rw [show w.drew.heap.size = w.heap.size from rfl] at this
  rw [this, bytesRow_at _ _ _ (by simpa [strB] using hj)]
  simp [strB]
theorem strB_at (l : List UInt8) (k : Nat) (h : k < (strB l).size) (h' : k < l.length) : (strB l)[k]'h = l[k] := by
  show (strB l).data[k] = l[k]
  simp [strB]
/-- What stands ahead of the loop lets it begin. -/
structure Begins (m : Bool) (s : List UInt8) : Prop where
  ne : s ≠ []
  zero : 1 < s.length → s.head? ≠ some 48
  minus : m = true → s ≠ [48]
set_option maxRecDepth 20000 in
set_option maxHeartbeats 8000000 in
theorem number_loop (l s : List UInt8) (m : Bool) (hp : Part l m s) (hl : s.length ≤ 100000) (w : World) (hbg : Begins m s)
    (hc : Calls Tryz.prog 97 #[.string (strB l), .string ⟨#[45]⟩] w fun e w' => e = .returned (.tuple #[.string (strB s), .bool m]) ∧ w' = w) :
    Calls Tryz.prog 77 #[.string (strB l)] w (NumIs (numF l) w) := by
  have HC := Lib.hid hc
  have HP := Lib.hid hp
  have HBG := Lib.hid hbg
  have z1 : (strB s).size = s.length := strB_size s
  have b1 : ((strB s).toList == []) = false := by rw [ByteArray.toList_eq, strB_list]; simpa using hbg.ne
  have b2 : ((strB s).toList.isEmpty) = false := by rw [ByteArray.toList_eq, strB_list]; simpa using hbg.ne
  have b3 : m = true → ((strB s).toList == [48]) = false := fun h => by rw [ByteArray.toList_eq, strB_list]; simpa using hbg.minus h
  have hpos : 0 < s.length := List.length_pos_iff.2 hbg.ne
  have z3 : 1 < s.length → ∀ h, ((((strB s)[0]'h).toNat : Int) == 48) = false := fun h1 h => by
    rw [strB_at s 0 h hpos, beq_eq_false_iff_ne]
    intro e
    have : s[0] = 48 := UInt8.toNat_inj.1 (by show s[0].toNat = 48; omega)
    refine hbg.zero h1 ?_
    rw [List.head?_eq_getElem?, List.getElem?_eq_getElem hpos]
    exact congrArg some this
  clear hc hp hbg
  by_cases h1 : 1 < s.length
  · replace z3 := z3 h1
    have g1 : (1 : Int) < (s.length : Int) := by omega
    cases m with
    | true =>
      replace b3 := b3 rfl
      go_enter Tryz.func77, Tryz.ntmps77
      go_wp2_with fail
      refine HC.out.mono ?_
      rintro e w1 ⟨rfl, rfl⟩
      obtain ⟨cc, W, hcv, hbw, hcells⟩ := bytes_of s w1
      have HBW := Lib.hid hbw
      have HCE := Lib.hid hcells
      clear hbw hcells
      go_wp2_with fail
      go_loop [2, 36] (fun x i => ∃ k : Nat, k ≤ s.length ∧ i = .int .i64 k ∧ x = .int .i64 (-(valN (s.take k) : Int)) ∧ Hid (DigsOk (s.take k))) (fun _ i => s.length - (intOf i).toNat)
      case atStart => exact ⟨0, by omega, rfl, by simp [valN], Lib.hid good_nil⟩
      case round =>
        obtain ⟨k, hk, rfl, rfl, HG⟩ := hrel
        by_cases hlt : k < s.length
        · have ck : W.cell? ⟨w1.heap.size, k, none⟩ = some (.int .u8 (s[k].toNat : Int)) := HCE.out k hlt
          have hc255 : s[k].toNat ≤ 255 := by have := s[k].toNat_lt; omega
          have HND := Lib.hid (fun h => numF_bad HP.out (good_not_dig hlt h))
          have HNB := Lib.hid (fun h => numF_bad HP.out (good_not_big hlt h))
          have HNX := Lib.hid (fun h1 h2 h3 => good_next hlt HG.out h1 h2 h3)
          have HVN := Lib.hid (val_next hlt)
          have hvb : valN (s.take k) ≤ 9223372036854775808 := HG.out.2
          generalize hv : valN (s.take k) = v at hvb HND HNB HNX HVN
          have HV := Lib.hid hv
          clear hv
          generalize s[k].toNat = c at ck hc255 HND HNB HNX HVN
          have hlt' : (k : Int) < (s.length : Int) := by omega
          by_cases g1 : c < 48
          · have HN := Lib.hid (HND.out (.inl g1))
            have d1 : (c : Int) - 48 < 0 := by omega
            go_wp2_with fail
            go_ret2
            exact ⟨by rw [HN.out]; rfl, HBW.out⟩
          · by_cases g2 : 57 < c
            · have HN := Lib.hid (HND.out (.inr g2))
              have d1 : ¬ (c : Int) - 48 < 0 := by omega
              have d2 : (c : Int) - 48 > 9 := by omega
              go_wp2_with fail
              go_ret2
              exact ⟨by rw [HN.out]; rfl, HBW.out⟩
            · have d1 : ¬ (c : Int) - 48 < 0 := by omega
              have d2 : ¬ (c : Int) - 48 > 9 := by omega
              by_cases g3 : 922337203685477580 < v
              · have HN := Lib.hid (HNB.out (by omega))
                have d3 : -(v : Int) < -922337203685477580 := by omega
                go_wp2_with fail
                go_ret2
                exact ⟨by rw [HN.out]; rfl, HBW.out⟩
              · have d3 : ¬ -(v : Int) < -922337203685477580 := by omega
                by_cases g4 : 9223372036854775808 < v * 10 + (c - 48)
                · have HN := Lib.hid (HNB.out (by omega))
                  have d4 : -(v : Int) * 10 < -9223372036854775808 + ((c : Int) - 48) := by omega
                  go_wp2_with fail
                  go_ret2
                  exact ⟨by rw [HN.out]; rfl, HBW.out⟩
                · have d4 : ¬ -(v : Int) * 10 < -9223372036854775808 + ((c : Int) - 48) := by omega
                  have HG2 := Lib.hid (HNX.out (by omega) (by omega) (by omega))
                  have HEQ : -(v : Int) * 10 - ((c : Int) - 48) = -(valN (s.take (k + 1)) : Int) := by rw [HVN.out]; omega
                  go_wp2_with fail
                  go_round
                  case rel => exact ⟨k + 1, by omega, by go_num, by rw [← HEQ], HG2⟩
                  case measure => simp [intOf]; omega
        · obtain rfl : k = s.length := by omega
          have HGS := Lib.hid (show DigsOk s by have := HG.out; rwa [List.take_length] at this)
          have hvb : valN s ≤ 9223372036854775808 := HGS.out.2
          have htk : s.take s.length = s := List.take_length
          rw [htk]
          clear htk
          have HN := Lib.hid (numF_neg HP.out HGS.out HBG.out.ne HBG.out.zero (HBG.out.minus rfl))
          generalize valN s = v at hvb HN ⊢
          go_wp2_with fail
          go_ret2
          exact ⟨by rw [HN.out]; rfl, HBW.out⟩
    | false =>
      clear b3
      go_enter Tryz.func77, Tryz.ntmps77
      go_wp2_with fail
      refine HC.out.mono ?_
      rintro e w1 ⟨rfl, rfl⟩
      obtain ⟨cc, W, hcv, hbw, hcells⟩ := bytes_of s w1
      have HBW := Lib.hid hbw
      have HCE := Lib.hid hcells
      clear hbw hcells
      go_wp2_with fail
      go_loop [2, 36] (fun x i => ∃ k : Nat, k ≤ s.length ∧ i = .int .i64 k ∧ x = .int .i64 (-(valN (s.take k) : Int)) ∧ Hid (DigsOk (s.take k))) (fun _ i => s.length - (intOf i).toNat)
      case atStart => exact ⟨0, by omega, rfl, by simp [valN], Lib.hid good_nil⟩
      case round =>
        obtain ⟨k, hk, rfl, rfl, HG⟩ := hrel
        by_cases hlt : k < s.length
        · have ck : W.cell? ⟨w1.heap.size, k, none⟩ = some (.int .u8 (s[k].toNat : Int)) := HCE.out k hlt
          have hc255 : s[k].toNat ≤ 255 := by have := s[k].toNat_lt; omega
          have HND := Lib.hid (fun h => numF_bad HP.out (good_not_dig hlt h))
          have HNB := Lib.hid (fun h => numF_bad HP.out (good_not_big hlt h))
          have HNX := Lib.hid (fun h1 h2 h3 => good_next hlt HG.out h1 h2 h3)
          have HVN := Lib.hid (val_next hlt)
          have hvb : valN (s.take k) ≤ 9223372036854775808 := HG.out.2
          generalize hv : valN (s.take k) = v at hvb HND HNB HNX HVN
          have HV := Lib.hid hv
          clear hv
          generalize s[k].toNat = c at ck hc255 HND HNB HNX HVN
          have hlt' : (k : Int) < (s.length : Int) := by omega
          by_cases g1 : c < 48
          · have HN := Lib.hid (HND.out (.inl g1))
            have d1 : (c : Int) - 48 < 0 := by omega
            go_wp2_with fail
            go_ret2
            exact ⟨by rw [HN.out]; rfl, HBW.out⟩
          · by_cases g2 : 57 < c
            · have HN := Lib.hid (HND.out (.inr g2))
              have d1 : ¬ (c : Int) - 48 < 0 := by omega
              have d2 : (c : Int) - 48 > 9 := by omega
              go_wp2_with fail
              go_ret2
              exact ⟨by rw [HN.out]; rfl, HBW.out⟩
            · have d1 : ¬ (c : Int) - 48 < 0 := by omega
              have d2 : ¬ (c : Int) - 48 > 9 := by omega
              by_cases g3 : 922337203685477580 < v
              · have HN := Lib.hid (HNB.out (by omega))
                have d3 : -(v : Int) < -922337203685477580 := by omega
                go_wp2_with fail
                go_ret2
                exact ⟨by rw [HN.out]; rfl, HBW.out⟩
              · have d3 : ¬ -(v : Int) < -922337203685477580 := by omega
                by_cases g4 : 9223372036854775808 < v * 10 + (c - 48)
                · have HN := Lib.hid (HNB.out (by omega))
                  have d4 : -(v : Int) * 10 < -9223372036854775808 + ((c : Int) - 48) := by omega
                  go_wp2_with fail
                  go_ret2
                  exact ⟨by rw [HN.out]; rfl, HBW.out⟩
                · have d4 : ¬ -(v : Int) * 10 < -9223372036854775808 + ((c : Int) - 48) := by omega
                  have HG2 := Lib.hid (HNX.out (by omega) (by omega) (by omega))
                  have HEQ : -(v : Int) * 10 - ((c : Int) - 48) = -(valN (s.take (k + 1)) : Int) := by rw [HVN.out]; omega
                  go_wp2_with fail
                  go_round
                  case rel => exact ⟨k + 1, by omega, by go_num, by rw [← HEQ], HG2⟩
                  case measure => simp [intOf]; omega
        · obtain rfl : k = s.length := by omega
          have HGS := Lib.hid (show DigsOk s by have := HG.out; rwa [List.take_length] at this)
          have hvb : valN s ≤ 9223372036854775808 := HGS.out.2
          have htk : s.take s.length = s := List.take_length
          rw [htk]
          clear htk
          by_cases g : valN s = 9223372036854775808
          · have HN := Lib.hid (numF_big HP.out g)
            rw [g]
            go_wp2_with fail
            go_ret2
            exact ⟨by rw [HN.out]; rfl, HBW.out⟩
          · have HN := Lib.hid (numF_pos HP.out HGS.out HBG.out.ne HBG.out.zero (by omega))
            generalize valN s = v at hvb HN g ⊢
            have d1 : (-(v : Int) == -9223372036854775808) = false := by rw [beq_eq_false_iff_ne]; omega
            have d2 : (v : Int) ≤ 9223372036854775807 := by omega
            go_wp2_with fail
            go_ret2
            exact ⟨by rw [HN.out]; rfl, HBW.out⟩
  · clear z3
    have g1 : ¬ (1 : Int) < (s.length : Int) := by omega
    cases m with
    | true =>
      replace b3 := b3 rfl
      go_enter Tryz.func77, Tryz.ntmps77
      go_wp2_with fail
      refine HC.out.mono ?_
      rintro e w1 ⟨rfl, rfl⟩
      obtain ⟨cc, W, hcv, hbw, hcells⟩ := bytes_of s w1
      have HBW := Lib.hid hbw
      have HCE := Lib.hid hcells
      clear hbw hcells
      go_wp2_with fail
      go_loop [2, 36] (fun x i => ∃ k : Nat, k ≤ s.length ∧ i = .int .i64 k ∧ x = .int .i64 (-(valN (s.take k) : Int)) ∧ Hid (DigsOk (s.take k))) (fun _ i => s.length - (intOf i).toNat)
      case atStart => exact ⟨0, by omega, rfl, by simp [valN], Lib.hid good_nil⟩
      case round =>
        obtain ⟨k, hk, rfl, rfl, HG⟩ := hrel
        by_cases hlt : k < s.length
        · have ck : W.cell? ⟨w1.heap.size, k, none⟩ = some (.int .u8 (s[k].toNat : Int)) := HCE.out k hlt
          have hc255 : s[k].toNat ≤ 255 := by have := s[k].toNat_lt; omega
          have HND := Lib.hid (fun h => numF_bad HP.out (good_not_dig hlt h))
          have HNB := Lib.hid (fun h => numF_bad HP.out (good_not_big hlt h))
          have HNX := Lib.hid (fun h1 h2 h3 => good_next hlt HG.out h1 h2 h3)
          have HVN := Lib.hid (val_next hlt)
          have hvb : valN (s.take k) ≤ 9223372036854775808 := HG.out.2
          generalize hv : valN (s.take k) = v at hvb HND HNB HNX HVN
          have HV := Lib.hid hv
          clear hv
          generalize s[k].toNat = c at ck hc255 HND HNB HNX HVN
          have hlt' : (k : Int) < (s.length : Int) := by omega
          by_cases g1 : c < 48
          · have HN := Lib.hid (HND.out (.inl g1))
            have d1 : (c : Int) - 48 < 0 := by omega
            go_wp2_with fail
            go_ret2
            exact ⟨by rw [HN.out]; rfl, HBW.out⟩
          · by_cases g2 : 57 < c
            · have HN := Lib.hid (HND.out (.inr g2))
              have d1 : ¬ (c : Int) - 48 < 0 := by omega
              have d2 : (c : Int) - 48 > 9 := by omega
              go_wp2_with fail
              go_ret2
              exact ⟨by rw [HN.out]; rfl, HBW.out⟩
            · have d1 : ¬ (c : Int) - 48 < 0 := by omega
              have d2 : ¬ (c : Int) - 48 > 9 := by omega
              by_cases g3 : 922337203685477580 < v
              · have HN := Lib.hid (HNB.out (by omega))
                have d3 : -(v : Int) < -922337203685477580 := by omega
                go_wp2_with fail
                go_ret2
                exact ⟨by rw [HN.out]; rfl, HBW.out⟩
              · have d3 : ¬ -(v : Int) < -922337203685477580 := by omega
                by_cases g4 : 9223372036854775808 < v * 10 + (c - 48)
                · have HN := Lib.hid (HNB.out (by omega))
                  have d4 : -(v : Int) * 10 < -9223372036854775808 + ((c : Int) - 48) := by omega
                  go_wp2_with fail
                  go_ret2
                  exact ⟨by rw [HN.out]; rfl, HBW.out⟩
                · have d4 : ¬ -(v : Int) * 10 < -9223372036854775808 + ((c : Int) - 48) := by omega
                  have HG2 := Lib.hid (HNX.out (by omega) (by omega) (by omega))
                  have HEQ : -(v : Int) * 10 - ((c : Int) - 48) = -(valN (s.take (k + 1)) : Int) := by rw [HVN.out]; omega
                  go_wp2_with fail
                  go_round
                  case rel => exact ⟨k + 1, by omega, by go_num, by rw [← HEQ], HG2⟩
                  case measure => simp [intOf]; omega
        · obtain rfl : k = s.length := by omega
          have HGS := Lib.hid (show DigsOk s by have := HG.out; rwa [List.take_length] at this)
          have hvb : valN s ≤ 9223372036854775808 := HGS.out.2
          have htk : s.take s.length = s := List.take_length
          rw [htk]
          clear htk
          have HN := Lib.hid (numF_neg HP.out HGS.out HBG.out.ne HBG.out.zero (HBG.out.minus rfl))
          generalize valN s = v at hvb HN ⊢
          go_wp2_with fail
          go_ret2
          exact ⟨by rw [HN.out]; rfl, HBW.out⟩
    | false =>
      clear b3
      go_enter Tryz.func77, Tryz.ntmps77
      go_wp2_with fail
      refine HC.out.mono ?_
      rintro e w1 ⟨rfl, rfl⟩
      obtain ⟨cc, W, hcv, hbw, hcells⟩ := bytes_of s w1
      have HBW := Lib.hid hbw
      have HCE := Lib.hid hcells
      clear hbw hcells
      go_wp2_with fail
      go_loop [2, 36] (fun x i => ∃ k : Nat, k ≤ s.length ∧ i = .int .i64 k ∧ x = .int .i64 (-(valN (s.take k) : Int)) ∧ Hid (DigsOk (s.take k))) (fun _ i => s.length - (intOf i).toNat)
      case atStart => exact ⟨0, by omega, rfl, by simp [valN], Lib.hid good_nil⟩
      case round =>
        obtain ⟨k, hk, rfl, rfl, HG⟩ := hrel
        by_cases hlt : k < s.length
        · have ck : W.cell? ⟨w1.heap.size, k, none⟩ = some (.int .u8 (s[k].toNat : Int)) := HCE.out k hlt
          have hc255 : s[k].toNat ≤ 255 := by have := s[k].toNat_lt; omega
          have HND := Lib.hid (fun h => numF_bad HP.out (good_not_dig hlt h))
          have HNB := Lib.hid (fun h => numF_bad HP.out (good_not_big hlt h))
          have HNX := Lib.hid (fun h1 h2 h3 => good_next hlt HG.out h1 h2 h3)
          have HVN := Lib.hid (val_next hlt)
          have hvb : valN (s.take k) ≤ 9223372036854775808 := HG.out.2
          generalize hv : valN (s.take k) = v at hvb HND HNB HNX HVN
          have HV := Lib.hid hv
          clear hv
          generalize s[k].toNat = c at ck hc255 HND HNB HNX HVN
          have hlt' : (k : Int) < (s.length : Int) := by omega
          by_cases g1 : c < 48
          · have HN := Lib.hid (HND.out (.inl g1))
            have d1 : (c : Int) - 48 < 0 := by omega
            go_wp2_with fail
            go_ret2
            exact ⟨by rw [HN.out]; rfl, HBW.out⟩
          · by_cases g2 : 57 < c
            · have HN := Lib.hid (HND.out (.inr g2))
              have d1 : ¬ (c : Int) - 48 < 0 := by omega
              have d2 : (c : Int) - 48 > 9 := by omega
              go_wp2_with fail
              go_ret2
              exact ⟨by rw [HN.out]; rfl, HBW.out⟩
            · have d1 : ¬ (c : Int) - 48 < 0 := by omega
              have d2 : ¬ (c : Int) - 48 > 9 := by omega
              by_cases g3 : 922337203685477580 < v
              · have HN := Lib.hid (HNB.out (by omega))
                have d3 : -(v : Int) < -922337203685477580 := by omega
                go_wp2_with fail
                go_ret2
                exact ⟨by rw [HN.out]; rfl, HBW.out⟩
              · have d3 : ¬ -(v : Int) < -922337203685477580 := by omega
                by_cases g4 : 9223372036854775808 < v * 10 + (c - 48)
                · have HN := Lib.hid (HNB.out (by omega))
                  have d4 : -(v : Int) * 10 < -9223372036854775808 + ((c : Int) - 48) := by omega
                  go_wp2_with fail
                  go_ret2
                  exact ⟨by rw [HN.out]; rfl, HBW.out⟩
                · have d4 : ¬ -(v : Int) * 10 < -9223372036854775808 + ((c : Int) - 48) := by omega
                  have HG2 := Lib.hid (HNX.out (by omega) (by omega) (by omega))
                  have HEQ : -(v : Int) * 10 - ((c : Int) - 48) = -(valN (s.take (k + 1)) : Int) := by rw [HVN.out]; omega
                  go_wp2_with fail
                  go_round
                  case rel => exact ⟨k + 1, by omega, by go_num, by rw [← HEQ], HG2⟩
                  case measure => simp [intOf]; omega
        · obtain rfl : k = s.length := by omega
          have HGS := Lib.hid (show DigsOk s by have := HG.out; rwa [List.take_length] at this)
          have hvb : valN s ≤ 9223372036854775808 := HGS.out.2
          have htk : s.take s.length = s := List.take_length
          rw [htk]
          clear htk
          by_cases g : valN s = 9223372036854775808
          · have HN := Lib.hid (numF_big HP.out g)
            rw [g]
            go_wp2_with fail
            go_ret2
            exact ⟨by rw [HN.out]; rfl, HBW.out⟩
          · have HN := Lib.hid (numF_pos HP.out HGS.out HBG.out.ne HBG.out.zero (by omega))
            generalize valN s = v at hvb HN g ⊢
            have d1 : (-(v : Int) == -9223372036854775808) = false := by rw [beq_eq_false_iff_ne]; omega
            have d2 : (v : Int) ≤ 9223372036854775807 := by omega
            go_wp2_with fail
            go_ret2
            exact ⟨by rw [HN.out]; rfl, HBW.out⟩
set_option maxRecDepth 20000 in
set_option maxHeartbeats 8000000 in
theorem number_walk (l s : List UInt8) (m : Bool) (hp : Part l m s) (hl : s.length ≤ 100000) (w : World)
    (hc : Calls Tryz.prog 97 #[.string (strB l), .string ⟨#[45]⟩] w fun e w' => e = .returned (.tuple #[.string (strB s), .bool m]) ∧ w' = w) :
    Calls Tryz.prog 77 #[.string (strB l)] w (NumIs (numF l) w) := by
  by_cases hne : s = []
  · subst hne
    have HN := Lib.hid (numF_nil hp)
    have b1 : (strB []).toList = [] := by rw [ByteArray.toList_eq, strB_list]
    have HC := Lib.hid hc
    clear hc hp
    go_enter Tryz.func77, Tryz.ntmps77
    go_wp2_with fail
    refine HC.out.mono ?_
    rintro e w1 ⟨rfl, rfl⟩
    go_wp2_with fail
    go_ret2
    exact ⟨by rw [HN.out]; rfl, Below.refl _ _⟩
  · by_cases hz : 1 < s.length ∧ s.head? = some 48
    · have HN := Lib.hid (numF_zero hp hz.1 hz.2)
      have z1 : (strB s).size = s.length := strB_size s
      have b1 : ((strB s).toList == []) = false := by rw [ByteArray.toList_eq, strB_list]; simpa using hne
      have b2 : ((strB s).toList.isEmpty) = false := by rw [ByteArray.toList_eq, strB_list]; simpa using hne
      have hpos : 0 < s.length := List.length_pos_iff.2 hne
      have z3 : ∀ h, ((((strB s)[0]'h).toNat : Int) == 48) = true := fun h => by
        rw [strB_at s 0 h hpos, beq_iff_eq]
        have h2 := hz.2
        rw [List.head?_eq_getElem?, List.getElem?_eq_getElem hpos] at h2
        injection h2 with h2
        rw [h2]; rfl
      have g1 : (1 : Int) < (s.length : Int) := by omega
      have HC := Lib.hid hc
      clear hc hp hz hne
      go_enter Tryz.func77, Tryz.ntmps77
      go_wp2_with fail
      refine HC.out.mono ?_
      rintro e w1 ⟨rfl, rfl⟩
      go_wp2_with fail
      go_ret2
      exact ⟨by rw [HN.out]; rfl, Below.refl _ _⟩
    · by_cases hm : m = true ∧ s = [48]
      · obtain ⟨rfl, rfl⟩ := hm
        have HN := Lib.hid (numF_minus0 hp)
        have z1 : (strB [48]).size = 1 := strB_size _
        have b1 : ((strB [48]).toList == []) = false := by rw [ByteArray.toList_eq, strB_list]; rfl
        have b2 : ((strB [48]).toList.isEmpty) = false := by rw [ByteArray.toList_eq, strB_list]; rfl
        have b3 : ((strB [48]).toList == [48]) = true := by rw [ByteArray.toList_eq, strB_list]; rfl
        have HC := Lib.hid hc
        clear hc hp hz hne
        go_enter Tryz.func77, Tryz.ntmps77
        go_wp2_with fail
        refine HC.out.mono ?_
        rintro e w1 ⟨rfl, rfl⟩
        go_wp2_with fail
        go_ret2
        exact ⟨by rw [HN.out]; rfl, Below.refl _ _⟩
      · exact number_loop l s m hp hl w ⟨hne, fun h1 h2 => hz ⟨h1, h2⟩, fun h1 h2 => hm ⟨h1, h2⟩⟩ hc
theorem wnumber_any (l : List UInt8) (hl : l.length ≤ 100000) (w : World) :
    Calls Tryz.prog 77 #[.string (strB l)] w (NumIs (numF l) w) := by
  have h := Shelf.strings_CutPrefix (strB l) ⟨#[45]⟩ w
  rw [strB_list, show (⟨#[45]⟩ : ByteArray).data.toList = [45] from rfl] at h
  refine number_walk l (Lib.trimPrefix l [45]) (Lib.hasPrefix l [45]) (trim_part l) ?_ w h
  unfold Lib.trimPrefix
  split
  · rw [List.length_drop]; omega
  · exact hl
end Go.Proofs.YtmkcooamgojbpaaGreatDoor.Lines

/- damperref35.decimal, and Line at a tick; damperref36.text. -/
namespace Go.Proofs.YtmkcooamgojbpaaGreatDoor.Lines
open Go.RowKit Go.Proofs.YtmkcooamgojbpaaGreatDoor.Kit Go.Proofs.YtmkcooamgojbpaaGreatDoor.Blk Go.Proofs.YtmkcooamgojbpaaGreatDoor.Dec Go.Proofs.YtmkcooamgojbpaaGreatDoor.Words Go.Proofs.YtmkcooamgojbpaaGreatDoor.Octets
attribute [local go_sem ↓] Go.wp_at_zero Go.wp_at_succ
set_option linter.unusedVariables false

theorem strB_app (a b : List UInt8) : strB a ++ strB b = strB (a ++ b) := by
  apply ByteArray.ext
  simp [strB]
/-- One digit's text. -/
theorem digit_text (w : World) (n : Nat) (h : n < 10) : (convert 49 9 (.slice (some ⟨w.heap.size, 0, none⟩) 1 1)).run Tryz.prog (w.alloc (.cells #[.int .u8 (48 + (n : Int))] 5)) = .ok (.string (strB (decN n))) (w.alloc (.cells #[.int .u8 (48 + (n : Int))] 5)) := by
  rw [decN_small h]
  refine run_convert_bytes_back _ _ _ 5 ⟨w.heap.size, 0, none⟩ 1 [dg n] Tryz.underlying49 Tryz.underlying5 Tryz.underlying9 fun j hj => ?_
  have hj : j = 0 := by simpa using hj
  subst hj
  rw [Addr.add_mid, Nat.zero_add]
  refine cell_new _ _ _ _ _ _ rfl ?_
  show some _ = some _
  rw [List.getElem_cons_zero, dg_nat h]
  congr 2
set_option maxRecDepth 20000 in
set_option maxHeartbeats 2000000 in
theorem rdec_pos : ∀ (n : Nat), n ≤ 9223372036854775807 → ∀ (w : World),
    Calls Tryz.prog 113 #[.int .i64 (n : Int)] w fun e w' => e = .returned (.string (strB (decN n))) ∧ Below w.heap.size w w' := by
  intro n
  induction n using Nat.strongRecOn with
  | _ n ih =>
    intro hn w
    have b1 : ((n : Int) == -9223372036854775808) = false := by rw [beq_eq_false_iff_ne]; omega
    have b2 : ¬ (n : Int) < 0 := by omega
    by_cases h : n < 10
    · have HT := digit_text w n h
      have b3 : (n : Int) < 10 := by omega
      clear ih
      go_enter Tryz.func113, Tryz.ntmps113
      go_wp2_with fail
      go_ret
      exact ⟨rfl, (Below.refl _ _).alloc (Nat.le_refl _) _⟩
    · have H1 := Lib.hid (ih (n / 10) (by omega) (by omega))
      have H2 := Lib.hid (ih (n % 10) (by omega) (by omega))
      have HD := Lib.hid (show strB (decN (n / 10)) ++ strB (decN (n % 10)) = strB (decN n) by rw [strB_app, decN_big h, decN_small (Nat.mod_lt n (by decide))])
      have b3 : ¬ (n : Int) < 10 := by omega
      have hz : (strB (decN (n / 10))).size + (strB (decN (n % 10))).size ≤ 9223372036854775807 := by
        rw [strB_size, strB_size]
        have h1 := decN_long (n := n / 10) (by omega)
        have h2 := decN_long (n := n % 10) (by omega)
        omega
      clear ih
      go_enter Tryz.func113, Tryz.ntmps113
      go_wp2_with fail
      refine (H1.out w).mono ?_
      rintro e w1 ⟨rfl, hb1⟩
      have HB1 := Lib.hid hb1
      clear hb1
      go_wp2_with fail
      refine (H2.out w1).mono ?_
      rintro e w2 ⟨rfl, hb2⟩
      have HB2 := Lib.hid (HB1.out.trans (hb2.mono HB1.out.size))
      clear hb2
      go_wp2_with fail
      go_ret
      exact ⟨by rw [← HD.out]; rfl, HB2.out⟩
theorem dec_pos {n : Int} (h : ¬ n < 0) : decB n = decN n.toNat := by rw [decB, if_neg h]; congr 1; omega
theorem dec_neg {n : Int} (h : n < 0) : decB n = 45 :: decN (-n).toNat := by rw [decB, if_pos h]; congr 2; omega
set_option maxRecDepth 20000 in
set_option maxHeartbeats 2000000 in
theorem rdecimal_any (n : Int) (h0 : -9223372036854775808 ≤ n) (h1 : n ≤ 9223372036854775807) (w : World) :
    Calls Tryz.prog 113 #[.int .i64 n] w fun e w' => e = .returned (.string (strB (decB n))) ∧ Below w.heap.size w w' := by
  by_cases hn : n < 0
  · by_cases hl : n = -9223372036854775808
    · subst hl
      have HE := Lib.hid (show decB (-9223372036854775808) = [45, 57, 50, 50, 51, 51, 55, 50, 48, 51, 54, 56, 53, 52, 55, 55, 53, 56, 48, 56] from by decide +kernel)
      go_enter Tryz.func113, Tryz.ntmps113
      go_wp2_with fail
      go_ret
      exact ⟨by rw [HE.out]; rfl, Below.refl _ _⟩
    · have b1 : (n == -9223372036854775808) = false := by rw [beq_eq_false_iff_ne]; exact hl
      have HC := Lib.hid (rdec_pos (-n).toNat (by omega) w)
      have HD := Lib.hid (dec_neg hn)
      have e1 : ((-n).toNat : Int) = -n := by omega
      rw [e1] at HC
      have hz : (strB (decN (-n).toNat)).size ≤ 100 := by
        rw [strB_size]
        have h1 := decN_long (n := (-n).toNat) (by omega)
        omega
      have h2 : -n ≤ 9223372036854775807 := by omega
      have HS := Lib.hid (show (⟨#[45]⟩ : ByteArray) ++ strB (decN (-n).toNat) = strB (decB n) from by rw [HD.out]; exact strB_app [45] _)
      generalize decN (-n).toNat = d at HC HS hz
      clear e1 hl
      go_enter Tryz.func113, Tryz.ntmps113
      go_wp2_with fail
      refine HC.out.mono ?_
      rintro e w1 ⟨rfl, hb1⟩
      have HB1 := Lib.hid hb1
      clear hb1
      go_wp2_with fail
      go_ret
      exact ⟨by rw [← HS.out]; rfl, HB1.out⟩
  · have HC := rdec_pos n.toNat (by omega) w
    rw [show ((n.toNat : Nat) : Int) = n by omega] at HC
    rw [dec_pos hn]
    exact HC
end Go.Proofs.YtmkcooamgojbpaaGreatDoor.Lines

/- strings.Builder: what it has been written. -/
namespace Go.Proofs.YtmkcooamgojbpaaGreatDoor.Lines
open Go.RowKit Go.Proofs.YtmkcooamgojbpaaGreatDoor.Kit Go.Proofs.YtmkcooamgojbpaaGreatDoor.Blk Go.Proofs.YtmkcooamgojbpaaGreatDoor.Dec Go.Proofs.YtmkcooamgojbpaaGreatDoor.Words Go.Proofs.YtmkcooamgojbpaaGreatDoor.Octets
set_option linter.unusedVariables false

/-- A builder at block B, the first of a call's own, has been written l. -/
def BdS (B : Nat) (l : List UInt8) (W : World) : Prop := Lib.IsBuilderF 51 5 B B (Lib.byteCells l) W
theorem bd_new (w : World) (B : Nat) (h : w.heap.size = B) : BdS B [] (w.alloc (.cells #[.pointer none, .slice none 0 0] 51)) := by
  subst h
  exact .inl ⟨Nat.le_refl _, _, heap_alloc_new w _, World.ownsRowF_nil _ _ _ _, by simp [Value.ownBlock]⟩
theorem BdS.lt {B : Nat} {l : List UInt8} {W : World} (h : BdS B l W) : B < W.heap.size := h.elim (·.lt) (·.lt)
theorem at_below {B : Nat} {p : Value} {l : List Value} {W W' : World} (h : Lib.BuilderAtF 51 5 B B p l W) (hb : Below W.heap.size W W') : Lib.BuilderAtF 51 5 B B p l W' := by
  have hlt := h.lt
  obtain ⟨hB, v, h1, h2, h3⟩ := h
  exact ⟨hB, v, by rw [hb.block B hlt]; exact h1, h2.kept (row := none) ⟨hb.os, hb.tape, hb.output, hb.size, fun k hk _ => hb.block k hk⟩ (by cases v.ownBlock; exact .inl rfl; exact .inr (by simp)), h3⟩
theorem BdS.below {B : Nat} {l : List UInt8} {W W' : World} (h : BdS B l W) (hb : Below W.heap.size W W') : BdS B l W' := h.imp (at_below · hb) (at_below · hb)
theorem BdS.alloc {B : Nat} {l : List UInt8} {W : World} (h : BdS B l W) (o : Obj) : BdS B l (W.alloc o) := h.below ((Below.refl _ _).alloc (Nat.le_refl _) _)
theorem cells_app (l s : List UInt8) : Lib.byteCells (l ++ s) = Lib.byteCells l ++ Lib.byteCells s := by simp [Lib.byteCells]
/-- Behind a write. -/
def BwIs (B : Nat) (l : List UInt8) (v : Value) (w : World) (e : Ending) (w' : World) : Prop := e = .returned v ∧ BdS B l w' ∧ Below B w w'
theorem writeString_any (B : Nat) (l s : List UInt8) (w : World) (h : BdS B l w) (hl : l.length + s.length ≤ 100000000) :
    Calls Tryz.prog 16 #[.pointer (some ⟨B, 0, none⟩), .string (strB s)] w (BwIs B (l ++ s) (.tuple #[.int .i64 (strB s).size, .nilIface]) w) := by
  refine (Shelf.writeString B B (Lib.byteCells l) (strB s) w h (by rw [Lib.byteCells_length, strB_size]; omega) (Nat.le_of_lt h.lt)).mono fun e w' hh => ⟨hh.1, .inr ?_, hh.2.2.1⟩
  rw [cells_app]
  have := hh.2.1
  rwa [show Lib.strCells (strB s) = Lib.byteCells s from by simp [Lib.strCells, Lib.byteCells, strB]] at this
theorem writeByte_any (B : Nat) (l : List UInt8) (c : UInt8) (w : World) (h : BdS B l w) (hl : l.length ≤ 100000000) :
    Calls Tryz.prog 18 #[.pointer (some ⟨B, 0, none⟩), .int .u8 (c.toNat : Int)] w (BwIs B (l ++ [c]) .nilIface w) := by
  refine (Shelf.writeByte B B (Lib.byteCells l) (c.toNat : Int) w h (by rw [Lib.byteCells_length]; omega) (Nat.le_of_lt h.lt)).mono fun e w' hh => ⟨hh.1, .inr ?_, hh.2.2.1⟩
  rw [cells_app]
  exact hh.2.1
theorem string_any (B : Nat) (l : List UInt8) (w : World) (h : BdS B l w) :
    Calls Tryz.prog 24 #[.pointer (some ⟨B, 0, none⟩)] w fun e w' => e = .returned (.string (strB l)) ∧ Below B w w' :=
  (Shelf.Builder_String_any_k B B l w h (Nat.le_of_lt h.lt)).mono fun e w' hh => ⟨hh.1, hh.2.2.1⟩
end Go.Proofs.YtmkcooamgojbpaaGreatDoor.Lines

/- damperref35.Line at a tick; damperref36.text. -/
namespace Go.Proofs.YtmkcooamgojbpaaGreatDoor.Lines
open Go.RowKit Go.Proofs.YtmkcooamgojbpaaGreatDoor.Kit Go.Proofs.YtmkcooamgojbpaaGreatDoor.Blk Go.Proofs.YtmkcooamgojbpaaGreatDoor.Dec Go.Proofs.YtmkcooamgojbpaaGreatDoor.Words Go.Proofs.YtmkcooamgojbpaaGreatDoor.Octets
attribute [local go_sem ↓] Go.wp_at_zero Go.wp_at_succ
set_option linter.unusedVariables false

set_option maxRecDepth 20000 in
set_option maxHeartbeats 2000000 in
theorem rline_tick (n : Int) (h0 : -9223372036854775808 ≤ n) (h1 : n ≤ 9223372036854775807) (w : World) :
    Calls Tryz.prog 93 #[.agg #[.int .i64 2, .int .i64 0, .int .i64 n, .slice none 0 0]] w (LineIs (some ([116, 105, 99, 107] ++ 32 :: decB n)) w) := by
  have HS := Lib.hid (show (⟨#[116, 105, 99, 107, 32]⟩ : ByteArray) ++ strB (decB n) = strB ([116, 105, 99, 107] ++ 32 :: decB n) from strB_app [116, 105, 99, 107, 32] _)
  have hz : (strB (decB n)).size ≤ 100 := by
    rw [strB_size]
    have := dec_len h0 h1
    omega
  have HR := Lib.hid (show rightZ 2 0 n 0 = true from rfl)
  go_enter Tryz.func93, Tryz.ntmps93
  go_wp2_with fail
  refine (rsright_any 2 0 n none 0 0 _).mono ?_
  rintro e w1 ⟨rfl, hb⟩
  have HB := Lib.hid (((Below.refl w.heap.size w).alloc (Nat.le_refl _) (.cells (stepV 2 0 n none 0 0) 113)).trans (hb.mono (by simp)))
  have HX := Lib.hid ((Blk.new w (stepV 2 0 n none 0 0) 113 w.heap.size rfl).below hb (by simp))
  clear hb
  rw [HR.out]
  have c0 : w1.cell? ⟨w.heap.size, 0, none⟩ = some (.int .i64 2) := HX.out.cell 0 rfl
  have c2 : w1.cell? ⟨w.heap.size, 2, none⟩ = some (.int .i64 n) := HX.out.cell 2 rfl
  go_wp2_with fail
  refine (rdecimal_any n h0 h1 w1).mono ?_
  rintro e w2 ⟨rfl, hb⟩
  have HB2 := Lib.hid (HB.out.trans (hb.mono HB.out.size))
  clear hb c0 c2
  go_wp2_with fail
  go_ret2
  refine ⟨?_, HB2.out⟩
  show Ending.returned (.tuple #[.string ((⟨#[116, 105, 99, 107, 32]⟩ : ByteArray) ++ strB (decB n)), _]) = _
  rw [HS.out]
  rfl
theorem drop_tick (d : List UInt8) : ([116, 105, 99, 107] ++ 32 :: d : List UInt8).drop 5 = d := rfl
end Go.Proofs.YtmkcooamgojbpaaGreatDoor.Lines
