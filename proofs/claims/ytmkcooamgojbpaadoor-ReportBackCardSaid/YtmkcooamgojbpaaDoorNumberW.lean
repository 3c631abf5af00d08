/- words.Number. -/
import Derived.Test.YtmkcooamgojbpaaDoorSplitW
namespace Go.Proofs.YtmkcooamgojbpaaDoor.Lines
open Go.RowKit Go.Proofs.YtmkcooamgojbpaaDoor.Kit Go.Proofs.YtmkcooamgojbpaaDoor.Blk Go.Proofs.YtmkcooamgojbpaaDoor.Dec Go.Proofs.YtmkcooamgojbpaaDoor.Words Go.Proofs.YtmkcooamgojbpaaDoor.Octets
attribute [local go_sem ↓] Go.wp_at_zero Go.wp_at_succ
set_option linter.unusedVariables false

theorem trim_part (l : List UInt8) : Part l (Lib.hasPrefix l [45]) (Lib.trimPrefix l [45]) := by
  cases l with
  | nil => exact ⟨fun h => (by cases h), fun _ => ⟨rfl, by simp⟩⟩
  | cons c l =>
    by_cases h : c = 45
    · subst h
      exact ⟨fun _ => by simp [Lib.trimPrefix, Lib.hasPrefix, List.isPrefixOf], fun h => by simp [Lib.hasPrefix, List.isPrefixOf] at h⟩
    · have h2 : ((45 : UInt8) == c) = false := by simpa using Ne.symm h
      exact ⟨fun h3 => by simp [Lib.hasPrefix, List.isPrefixOf, h2] at h3, fun _ => ⟨by simp [Lib.trimPrefix, Lib.hasPrefix, List.isPrefixOf, h2], by simp [h]⟩⟩
def NumIs (o : Option Int) (w : World) (e : Ending) (w' : World) : Prop := e = .returned (.tuple #[.int .i64 (o.getD 0), .bool o.isSome]) ∧ Below w.heap.size w w'
/-- The bytes of a string, in a block of their own. -/
theorem bytes_of (s : List UInt8) (w : World) : ∃ c W, (convert 9 40 (.string (strB s))).run Tryd.prog w = .ok (.slice (some ⟨w.heap.size, 0, none⟩) s.length c) W ∧ Below w.heap.size w W ∧ ∀ j, (h : j < s.length) → W.cell? ⟨w.heap.size, j, none⟩ = some (.int .u8 (s[j].toNat : Int)) := by
  have h := run_bytes_of_string (P := Tryd.prog) w 9 40 5 (strB s) Tryd.underlying9 Tryd.underlying40 Tryd.underlying5
  rw [strB_size] at h
  refine ⟨_, _, h, (Below.refl _ _).drew.alloc (Nat.le_refl _) _, fun j hj => ?_⟩
  have := World.cell?_alloc_mark w.drew (bytesRow (strB s) (grownCap w s.length 0 5)) 5 ((bytesRow (strB s) (grownCap w s.length 0 5)).size, (bytesRow (strB s) (grownCap w s.length 0 5)).size + 1) j
  rw [show w.drew.heap.size = w.heap.size from rfl] at this
  rw [this, bytesRow_at _ _ _ (by simpa [strB] using hj)]
  simp [strB]
theorem strB_at (l : List UInt8) (k : Nat) (h : k < (strB l).size) (h' : k < l.length) : (strB l)[k]'h = l[k] := by
  show (strB l).data[k] = l[k]
  simp [strB]
/-- What stands ahead of the loop lets it begin. -/
structure Begins (m : Bool) (s : List UInt8) : Prop where
  ne : s ≠ []
  zero : 1 < s.length → s.head? ≠ some 48
  minus : m = true → s ≠ [48]
set_option maxRecDepth 20000 in
set_option maxHeartbeats 8000000 in
theorem number_loop (l s : List UInt8) (m : Bool) (hp : Part l m s) (hl : s.length ≤ 100000) (w : World) (hbg : Begins m s)
    (hc : Calls Tryd.prog 82 #[.string (strB l), .string ⟨#[45]⟩] w fun e w' => e = .returned (.tuple #[.string (strB s), .bool m]) ∧ w' = w) :
    Calls Tryd.prog 29 #[.string (strB l)] w (NumIs (numF l) w) := by
  have HC := Lib.hid hc
  have HP := Lib.hid hp
  have HBG := Lib.hid hbg
  have z1 : (strB s).size = s.length := strB_size s
  have b1 : ((strB s).toList == []) = false := by rw [ByteArray.toList_eq, strB_list]; simpa using hbg.ne
  have b2 : ((strB s).toList.isEmpty) = false := by rw [ByteArray.toList_eq, strB_list]; simpa using hbg.ne
  have b3 : m = true → ((strB s).toList == [48]) = false := fun h => by rw [ByteArray.toList_eq, strB_list]; simpa using hbg.minus h
  have hpos : 0 < s.length := List.length_pos_iff.2 hbg.ne
  have z3 : 1 < s.length → ∀ h, ((((strB s)[0]'h).toNat : Int) == 48) = false := fun h1 h => by
    rw [strB_at s 0 h hpos, beq_eq_false_iff_ne]
    intro e
    have : s[0] = 48 := UInt8.toNat_inj.1 (by show s[0].toNat = 48; omega)
    refine hbg.zero h1 ?_
    rw [List.head?_eq_getElem?, List.getElem?_eq_getElem hpos]
    exact congrArg some this
  clear hc hp hbg
  by_cases h1 : 1 < s.length
  · replace z3 := z3 h1
    have g1 : (1 : Int) < (s.length : Int) := by omega
    cases m with
    | true =>
      replace b3 := b3 rfl
      go_enter Tryd.func29, Tryd.ntmps29
      go_wp2_with fail
      refine HC.out.mono ?_
      rintro e w1 ⟨rfl, rfl⟩
      obtain ⟨cc, W, hcv, hbw, hcells⟩ := bytes_of s w1
      have HBW := Lib.hid hbw
      have HCE := Lib.hid hcells
      clear hbw hcells
      go_wp2_with fail
      go_loop [2, 36] (fun x i => ∃ k : Nat, k ≤ s.length ∧ i = .int .i64 k ∧ x = .int .i64 (-(valN (s.take k) : Int)) ∧ Hid (DigsOk (s.take k))) (fun _ i => s.length - (intOf i).toNat)
      case atStart => exact ⟨0, by omega, rfl, by simp [valN], Lib.hid good_nil⟩
      case round =>
        obtain ⟨k, hk, rfl, rfl, HG⟩ := hrel
        by_cases hlt : k < s.length
        · have ck : W.cell? ⟨w1.heap.size, k, none⟩ = some (.int .u8 (s[k].toNat : Int)) := HCE.out k hlt
          have hc255 : s[k].toNat ≤ 255 := by have := s[k].toNat_lt; omega
          have HND := Lib.hid (fun h => numF_bad HP.out (good_not_dig hlt h))
          have HNB := Lib.hid (fun h => numF_bad HP.out (good_not_big hlt h))
          have HNX := Lib.hid (fun h1 h2 h3 => good_next hlt HG.out h1 h2 h3)
          have HVN := Lib.hid (val_next hlt)
          have hvb : valN (s.take k) ≤ 9223372036854775808 := HG.out.2
          generalize hv : valN (s.take k) = v at hvb HND HNB HNX HVN
          have HV := Lib.hid hv
          clear hv
          generalize s[k].toNat = c at ck hc255 HND HNB HNX HVN
          have hlt' : (k : Int) < (s.length : Int) := by omega
          by_cases g1 : c < 48
          · have HN := Lib.hid (HND.out (.inl g1))
            have d1 : (c : Int) - 48 < 0 := by omega
            go_wp2_with fail
            go_ret2
            exact ⟨by rw [HN.out]; rfl, HBW.out⟩
          · by_cases g2 : 57 < c
            · have HN := Lib.hid (HND.out (.inr g2))
              have d1 : ¬ (c : Int) - 48 < 0 := by omega
              have d2 : (c : Int) - 48 > 9 := by omega
              go_wp2_with fail
              go_ret2
              exact ⟨by rw [HN.out]; rfl, HBW.out⟩
            · have d1 : ¬ (c : Int) - 48 < 0 := by omega
              have d2 : ¬ (c : Int) - 48 > 9 := by omega
              by_cases g3 : 922337203685477580 < v
              · have HN := Lib.hid (HNB.out (by omega))
                have d3 : -(v : Int) < -922337203685477580 := by omega
                go_wp2_with fail
                go_ret2
                exact ⟨by rw [HN.out]; rfl, HBW.out⟩
              · have d3 : ¬ -(v : Int) < -922337203685477580 := by omega
                by_cases g4 : 9223372036854775808 < v * 10 + (c - 48)
                · have HN := Lib.hid (HNB.out (by omega))
                  have d4 : -(v : Int) * 10 < -9223372036854775808 + ((c : Int) - 48) := by omega
                  go_wp2_with fail
                  go_ret2
                  exact ⟨by rw [HN.out]; rfl, HBW.out⟩
                · have d4 : ¬ -(v : Int) * 10 < -9223372036854775808 + ((c : Int) - 48) := by omega
                  have HG2 := Lib.hid (HNX.out (by omega) (by omega) (by omega))
                  have HEQ : -(v : Int) * 10 - ((c : Int) - 48) = -(valN (s.take (k + 1)) : Int) := by rw [HVN.out]; omega
                  go_wp2_with fail
                  go_round
                  case rel => exact ⟨k + 1, by omega, by go_num, by rw [← HEQ], HG2⟩
                  case measure => simp [intOf]; omega
        · obtain rfl : k = s.length := by omega
          have HGS := Lib.hid (show DigsOk s by have := HG.out; rwa [List.take_length] at this)
          have hvb : valN s ≤ 9223372036854775808 := HGS.out.2
          have htk : s.take s.length = s := List.take_length
          rw [htk]
          clear htk
          have HN := Lib.hid (numF_neg HP.out HGS.out HBG.out.ne HBG.out.zero (HBG.out.minus rfl))
          generalize valN s = v at hvb HN ⊢
          go_wp2_with fail
          go_ret2
          exact ⟨by rw [HN.out]; rfl, HBW.out⟩
    | false =>
      clear b3
      go_enter Tryd.func29, Tryd.ntmps29
      go_wp2_with fail
      refine HC.out.mono ?_
      rintro e w1 ⟨rfl, rfl⟩
      obtain ⟨cc, W, hcv, hbw, hcells⟩ := bytes_of s w1
      have HBW := Lib.hid hbw
      have HCE := Lib.hid hcells
      clear hbw hcells
      go_wp2_with fail
      go_loop [2, 36] (fun x i => ∃ k : Nat, k ≤ s.length ∧ i = .int .i64 k ∧ x = .int .i64 (-(valN (s.take k) : Int)) ∧ Hid (DigsOk (s.take k))) (fun _ i => s.length - (intOf i).toNat)
      case atStart => exact ⟨0, by omega, rfl, by simp [valN], Lib.hid good_nil⟩
      case round =>
        obtain ⟨k, hk, rfl, rfl, HG⟩ := hrel
        by_cases hlt : k < s.length
        · have ck : W.cell? ⟨w1.heap.size, k, none⟩ = some (.int .u8 (s[k].toNat : Int)) := HCE.out k hlt
          have hc255 : s[k].toNat ≤ 255 := by have := s[k].toNat_lt; omega
          have HND := Lib.hid (fun h => numF_bad HP.out (good_not_dig hlt h))
          have HNB := Lib.hid (fun h => numF_bad HP.out (good_not_big hlt h))
          have HNX := Lib.hid (fun h1 h2 h3 => good_next hlt HG.out h1 h2 h3)
          have HVN := Lib.hid (val_next hlt)
          have hvb : valN (s.take k) ≤ 9223372036854775808 := HG.out.2
          generalize hv : valN (s.take k) = v at hvb HND HNB HNX HVN
          have HV := Lib.hid hv
          clear hv
          generalize s[k].toNat = c at ck hc255 HND HNB HNX HVN
          have hlt' : (k : Int) < (s.length : Int) := by omega
          by_cases g1 : c < 48
          · have HN := Lib.hid (HND.out (.inl g1))
            have d1 : (c : Int) - 48 < 0 := by omega
            go_wp2_with fail
            go_ret2
            exact ⟨by rw [HN.out]; rfl, HBW.out⟩
          · by_cases g2 : 57 < c
            · have HN := Lib.hid (HND.out (.inr g2))
              have d1 : ¬ (c : Int) - 48 < 0 := by omega
              have d2 : (c : Int) - 48 > 9 := by omega
              go_wp2_with fail
              go_ret2
              exact ⟨by rw [HN.out]; rfl, HBW.out⟩
            · have d1 : ¬ (c : Int) - 48 < 0 := by omega
              have d2 : ¬ (c : Int) - 48 > 9 := by omega
              by_cases g3 : 922337203685477580 < v
              · have HN := Lib.hid (HNB.out (by omega))
                have d3 : -(v : Int) < -922337203685477580 := by omega
                go_wp2_with fail
                go_ret2
                exact ⟨by rw [HN.out]; rfl, HBW.out⟩
              · have d3 : ¬ -(v : Int) < -922337203685477580 := by omega
                by_cases g4 : 9223372036854775808 < v * 10 + (c - 48)
                · have HN := Lib.hid (HNB.out (by omega))
                  have d4 : -(v : Int) * 10 < -9223372036854775808 + ((c : Int) - 48) := by omega
                  go_wp2_with fail
                  go_ret2
                  exact ⟨by rw [HN.out]; rfl, HBW.out⟩
                · have d4 : ¬ -(v : Int) * 10 < -9223372036854775808 + ((c : Int) - 48) := by omega
                  have HG2 := Lib.hid (HNX.out (by omega) (by omega) (by omega))
                  have HEQ : -(v : Int) * 10 - ((c : Int) - 48) = -(valN (s.take (k + 1)) : Int) := by rw [HVN.out]; omega
                  go_wp2_with fail
                  go_round
                  case rel => exact ⟨k + 1, by omega, by go_num, by rw [← HEQ], HG2⟩
                  case measure => simp [intOf]; omega
        · obtain rfl : k = s.length := by omega
          have HGS := Lib.hid (show DigsOk s by have := HG.out; rwa [List.take_length] at this)
          have hvb : valN s ≤ 9223372036854775808 := HGS.out.2
          have htk : s.take s.length = s := List.take_length
          rw [htk]
          clear htk
          by_cases g : valN s = 9223372036854775808
          · have HN := Lib.hid (numF_big HP.out g)
            rw [g]
            go_wp2_with fail
            go_ret2
            exact ⟨by rw [HN.out]; rfl, HBW.out⟩
          · have HN := Lib.hid (numF_pos HP.out HGS.out HBG.out.ne HBG.out.zero (by omega))
            generalize valN s = v at hvb HN g ⊢
            have d1 : (-(v : Int) == -9223372036854775808) = false := by rw [beq_eq_false_iff_ne]; omega
            have d2 : (v : Int) ≤ 9223372036854775807 := by omega
            go_wp2_with fail
            go_ret2
            exact ⟨by rw [HN.out]; rfl, HBW.out⟩
  · clear z3
    have g1 : ¬ (1 : Int) < (s.length : Int) := by omega
    cases m with
    | true =>
      replace b3 := b3 rfl
      go_enter Tryd.func29, Tryd.ntmps29
      go_wp2_with fail
      refine HC.out.mono ?_
      rintro e w1 ⟨rfl, rfl⟩
      obtain ⟨cc, W, hcv, hbw, hcells⟩ := bytes_of s w1
      have HBW := Lib.hid hbw
      have HCE := Lib.hid hcells
      clear hbw hcells
      go_wp2_with fail
      go_loop [2, 36] (fun x i => ∃ k : Nat, k ≤ s.length ∧ i = .int .i64 k ∧ x = .int .i64 (-(valN (s.take k) : Int)) ∧ Hid (DigsOk (s.take k))) (fun _ i => s.length - (intOf i).toNat)
      case atStart => exact ⟨0, by omega, rfl, by simp [valN], Lib.hid good_nil⟩
      case round =>
        obtain ⟨k, hk, rfl, rfl, HG⟩ := hrel
        by_cases hlt : k < s.length
        · have ck : W.cell? ⟨w1.heap.size, k, none⟩ = some (.int .u8 (s[k].toNat : Int)) := HCE.out k hlt
          have hc255 : s[k].toNat ≤ 255 := by have := s[k].toNat_lt; omega
          have HND := Lib.hid (fun h => numF_bad HP.out (good_not_dig hlt h))
          have HNB := Lib.hid (fun h => numF_bad HP.out (good_not_big hlt h))
          have HNX := Lib.hid (fun h1 h2 h3 => good_next hlt HG.out h1 h2 h3)
          have HVN := Lib.hid (val_next hlt)
          have hvb : valN (s.take k) ≤ 9223372036854775808 := HG.out.2
          generalize hv : valN (s.take k) = v at hvb HND HNB HNX HVN
          have HV := Lib.hid hv
          clear hv
          generalize s[k].toNat = c at ck hc255 HND HNB HNX HVN
          have hlt' : (k : Int) < (s.length : Int) := by omega
          by_cases g1 : c < 48
          · have HN := Lib.hid (HND.out (.inl g1))
            have d1 : (c : Int) - 48 < 0 := by omega
            go_wp2_with fail
            go_ret2
            exact ⟨by rw [HN.out]; rfl, HBW.out⟩
          · by_cases g2 : 57 < c
            · have HN := Lib.hid (HND.out (.inr g2))
              have d1 : ¬ (c : Int) - 48 < 0 := by omega
              have d2 : (c : Int) - 48 > 9 := by omega
              go_wp2_with fail
              go_ret2
              exact ⟨by rw [HN.out]; rfl, HBW.out⟩
            · have d1 : ¬ (c : Int) - 48 < 0 := by omega
              have d2 : ¬ (c : Int) - 48 > 9 := by omega
              by_cases g3 : 922337203685477580 < v
              · have HN := Lib.hid (HNB.out (by omega))
                have d3 : -(v : Int) < -922337203685477580 := by omega
                go_wp2_with fail
                go_ret2
                exact ⟨by rw [HN.out]; rfl, HBW.out⟩
              · have d3 : ¬ -(v : Int) < -922337203685477580 := by omega
                by_cases g4 : 9223372036854775808 < v * 10 + (c - 48)
                · have HN := Lib.hid (HNB.out (by omega))
                  have d4 : -(v : Int) * 10 < -9223372036854775808 + ((c : Int) - 48) := by omega
                  go_wp2_with fail
                  go_ret2
                  exact ⟨by rw [HN.out]; rfl, HBW.out⟩
                · have d4 : ¬ -(v : Int) * 10 < -9223372036854775808 + ((c : Int) - 48) := by omega
                  have HG2 := Lib.hid (HNX.out (by omega) (by omega) (by omega))
                  have HEQ : -(v : Int) * 10 - ((c : Int) - 48) = -(valN (s.take (k + 1)) : Int) := by rw [HVN.out]; omega
                  go_wp2_with fail
                  go_round
                  case rel => exact ⟨k + 1, by omega, by go_num, by rw [← HEQ], HG2⟩
                  case measure => simp [intOf]; omega
        · obtain rfl : k = s.length := by omega
          have HGS := Lib.hid (show DigsOk s by have := HG.out; rwa [List.take_length] at this)
          have hvb : valN s ≤ 9223372036854775808 := HGS.out.2
          have htk : s.take s.length = s := List.take_length
          rw [htk]
          clear htk
          have HN := Lib.hid (numF_neg HP.out HGS.out HBG.out.ne HBG.out.zero (HBG.out.minus rfl))
          generalize valN s = v at hvb HN ⊢
          go_wp2_with fail
          go_ret2
          exact ⟨by rw [HN.out]; rfl, HBW.out⟩
    | false =>
      clear b3
      go_enter Tryd.func29, Tryd.ntmps29
      go_wp2_with fail
      refine HC.out.mono ?_
      rintro e w1 ⟨rfl, rfl⟩
      obtain ⟨cc, W, hcv, hbw, hcells⟩ := bytes_of s w1
      have HBW := Lib.hid hbw
      have HCE := Lib.hid hcells
      clear hbw hcells
      go_wp2_with fail
      go_loop [2, 36] (fun x i => ∃ k : Nat, k ≤ s.length ∧ i = .int .i64 k ∧ x = .int .i64 (-(valN (s.take k) : Int)) ∧ Hid (DigsOk (s.take k))) (fun _ i => s.length - (intOf i).toNat)
      case atStart => exact ⟨0, by omega, rfl, by simp [valN], Lib.hid good_nil⟩
      case round =>
        obtain ⟨k, hk, rfl, rfl, HG⟩ := hrel
        by_cases hlt : k < s.length
        · have ck : W.cell? ⟨w1.heap.size, k, none⟩ = some (.int .u8 (s[k].toNat : Int)) := HCE.out k hlt
          have hc255 : s[k].toNat ≤ 255 := by have := s[k].toNat_lt; omega
          have HND := Lib.hid (fun h => numF_bad HP.out (good_not_dig hlt h))
          have HNB := Lib.hid (fun h => numF_bad HP.out (good_not_big hlt h))
          have HNX := Lib.hid (fun h1 h2 h3 => good_next hlt HG.out h1 h2 h3)
          have HVN := Lib.hid (val_next hlt)
          have hvb : valN (s.take k) ≤ 9223372036854775808 := HG.out.2
          generalize hv : valN (s.take k) = v at hvb HND HNB HNX HVN
          have HV := Lib.hid hv
          clear hv
          generalize s[k].toNat = c at ck hc255 HND HNB HNX HVN
          have hlt' : (k : Int) < (s.length : Int) := by omega
          by_cases g1 : c < 48
          · have HN := Lib.hid (HND.out (.inl g1))
            have d1 : (c : Int) - 48 < 0 := by omega
            go_wp2_with fail
            go_ret2
            exact ⟨by rw [HN.out]; rfl, HBW.out⟩
          · by_cases g2 : 57 < c
            · have HN := Lib.hid (HND.out (.inr g2))
              have d1 : ¬ (c : Int) - 48 < 0 := by omega
              have d2 : (c : Int) - 48 > 9 := by omega
              go_wp2_with fail
              go_ret2
              exact ⟨by rw [HN.out]; rfl, HBW.out⟩
            · have d1 : ¬ (c : Int) - 48 < 0 := by omega
              have d2 : ¬ (c : Int) - 48 > 9 := by omega
              by_cases g3 : 922337203685477580 < v
              · have HN := Lib.hid (HNB.out (by omega))
                have d3 : -(v : Int) < -922337203685477580 := by omega
                go_wp2_with fail
                go_ret2
                exact ⟨by rw [HN.out]; rfl, HBW.out⟩
              · have d3 : ¬ -(v : Int) < -922337203685477580 := by omega
                by_cases g4 : 9223372036854775808 < v * 10 + (c - 48)
                · have HN := Lib.hid (HNB.out (by omega))
                  have d4 : -(v : Int) * 10 < -9223372036854775808 + ((c : Int) - 48) := by omega
                  go_wp2_with fail
                  go_ret2
                  exact ⟨by rw [HN.out]; rfl, HBW.out⟩
                · have d4 : ¬ -(v : Int) * 10 < -9223372036854775808 + ((c : Int) - 48) := by omega
                  have HG2 := Lib.hid (HNX.out (by omega) (by omega) (by omega))
                  have HEQ : -(v : Int) * 10 - ((c : Int) - 48) = -(valN (s.take (k + 1)) : Int) := by rw [HVN.out]; omega
                  go_wp2_with fail
                  go_round
                  case rel => exact ⟨k + 1, by omega, by go_num, by rw [← HEQ], HG2⟩
                  case measure => simp [intOf]; omega
        · obtain rfl : k = s.length := by omega
          have HGS := Lib.hid (show DigsOk s by have := HG.out; rwa [List.take_length] at this)
          have hvb : valN s ≤ 9223372036854775808 := HGS.out.2
          have htk : s.take s.length = s := List.take_length
          rw [htk]
          clear htk
          by_cases g : valN s = 9223372036854775808
          · have HN := Lib.hid (numF_big HP.out g)
            rw [g]
            go_wp2_with fail
            go_ret2
            exact ⟨by rw [HN.out]; rfl, HBW.out⟩
          · have HN := Lib.hid (numF_pos HP.out HGS.out HBG.out.ne HBG.out.zero (by omega))
            generalize valN s = v at hvb HN g ⊢
            have d1 : (-(v : Int) == -9223372036854775808) = false := by rw [beq_eq_false_iff_ne]; omega
            have d2 : (v : Int) ≤ 9223372036854775807 := by omega
            go_wp2_with fail
            go_ret2
            exact ⟨by rw [HN.out]; rfl, HBW.out⟩
set_option maxRecDepth 20000 in
set_option maxHeartbeats 8000000 in
theorem number_walk (l s : List UInt8) (m : Bool) (hp : Part l m s) (hl : s.length ≤ 100000) (w : World)
    (hc : Calls Tryd.prog 82 #[.string (strB l), .string ⟨#[45]⟩] w fun e w' => e = .returned (.tuple #[.string (strB s), .bool m]) ∧ w' = w) :
    Calls Tryd.prog 29 #[.string (strB l)] w (NumIs (numF l) w) := by
  by_cases hne : s = []
  · subst hne
    have HN := Lib.hid (numF_nil hp)
    have b1 : (strB []).toList = [] := by rw [ByteArray.toList_eq, strB_list]
    have HC := Lib.hid hc
    clear hc hp
    go_enter Tryd.func29, Tryd.ntmps29
    go_wp2_with fail
    refine HC.out.mono ?_
    rintro e w1 ⟨rfl, rfl⟩
    go_wp2_with fail
    go_ret2
    exact ⟨by rw [HN.out]; rfl, Below.refl _ _⟩
  · by_cases hz : 1 < s.length ∧ s.head? = some 48
    · have HN := Lib.hid (numF_zero hp hz.1 hz.2)
      have z1 : (strB s).size = s.length := strB_size s
      have b1 : ((strB s).toList == []) = false := by rw [ByteArray.toList_eq, strB_list]; simpa using hne
      have b2 : ((strB s).toList.isEmpty) = false := by rw [ByteArray.toList_eq, strB_list]; simpa using hne
      have hpos : 0 < s.length := List.length_pos_iff.2 hne
      have z3 : ∀ h, ((((strB s)[0]'h).toNat : Int) == 48) = true := fun h => by
        rw [strB_at s 0 h hpos, beq_iff_eq]
        have h2 := hz.2
        rw [List.head?_eq_getElem?, List.getElem?_eq_getElem hpos] at h2
        injection h2 with h2
        rw [h2]; rfl
      have g1 : (1 : Int) < (s.length : Int) := by omega
      have HC := Lib.hid hc
      clear hc hp hz hne
      go_enter Tryd.func29, Tryd.ntmps29
      go_wp2_with fail
      refine HC.out.mono ?_
      rintro e w1 ⟨rfl, rfl⟩
      go_wp2_with fail
      go_ret2
      exact ⟨by rw [HN.out]; rfl, Below.refl _ _⟩
    · by_cases hm : m = true ∧ s = [48]
      · obtain ⟨rfl, rfl⟩ := hm
        have HN := Lib.hid (numF_minus0 hp)
        have z1 : (strB [48]).size = 1 := strB_size _
        have b1 : ((strB [48]).toList == []) = false := by rw [ByteArray.toList_eq, strB_list]; rfl
        have b2 : ((strB [48]).toList.isEmpty) = false := by rw [ByteArray.toList_eq, strB_list]; rfl
        have b3 : ((strB [48]).toList == [48]) = true := by rw [ByteArray.toList_eq, strB_list]; rfl
        have HC := Lib.hid hc
        clear hc hp hz hne
        go_enter Tryd.func29, Tryd.ntmps29
        go_wp2_with fail
        refine HC.out.mono ?_
        rintro e w1 ⟨rfl, rfl⟩
        go_wp2_with fail
        go_ret2
        exact ⟨by rw [HN.out]; rfl, Below.refl _ _⟩
      · exact number_loop l s m hp hl w ⟨hne, fun h1 h2 => hz ⟨h1, h2⟩, fun h1 h2 => hm ⟨h1, h2⟩⟩ hc
theorem wnumber_any (l : List UInt8) (hl : l.length ≤ 100000) (w : World) :
    Calls Tryd.prog 29 #[.string (strB l)] w (NumIs (numF l) w) := by
  have h := Shelf.strings_CutPrefix (strB l) ⟨#[45]⟩ w
  rw [strB_list, show (⟨#[45]⟩ : ByteArray).data.toList = [45] from rfl] at h
  refine number_walk l (Lib.trimPrefix l [45]) (Lib.hasPrefix l [45]) (trim_part l) ?_ w h
  unfold Lib.trimPrefix
  split
  · rw [List.length_drop]; omega
  · exact hl
end Go.Proofs.YtmkcooamgojbpaaDoor.Lines
