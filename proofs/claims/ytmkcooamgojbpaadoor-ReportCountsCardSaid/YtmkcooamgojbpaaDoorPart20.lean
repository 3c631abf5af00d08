/- Parts of the proof: Decimal. -/
import Derived.Test.YtmkcooamgojbpaaDoorPart19
import Derived.Test.YtmkcooamgojbpaaDoorPart12
import Derived.Laws.IdiomStrings
import Derived.Deep.DeepCutAuto
import Derived.Deep.CutBlock

/- words.decimal: a number's text. -/
namespace Go.Proofs.YtmkcooamgojbpaaDoor.Lines
open Go.RowKit Go.Proofs.YtmkcooamgojbpaaDoor.Kit Go.Proofs.YtmkcooamgojbpaaDoor.Blk Go.Proofs.YtmkcooamgojbpaaDoor.Dec Go.Proofs.YtmkcooamgojbpaaDoor.Words
set_option linter.unusedVariables false

def strB (l : List UInt8) : ByteArray := ⟨l.toArray⟩
theorem strB_list (l : List UInt8) : (strB l).data.toList = l := by simp [strB]
theorem strB_size (l : List UInt8) : (strB l).size = l.length := by simp [strB, ByteArray.size]
/-- The digits so far, at the end of a block of twenty. -/
structure DgS (w : World) (B n : Nat) (W : World) (k m : Nat) (t : List UInt8) : Prop where
  blk : ∃ cs, Blk W B cs 235 ∧ cs.size = 20 ∧ ∀ i, (h : i < t.length) → cs[k + i]? = some (.int .u8 (t[i].toNat : Int))
  bel : Below w.heap.size w W
  ge : w.heap.size ≤ B
  sum : k + t.length = 20
theorem DgS.put {w W : World} {B n k m m' : Nat} {t : List UInt8} (h : DgS w B n W (k + 1) m t) (b : UInt8) {v : Int} (hv : v = (b.toNat : Int)) : DgS w B n (W.setCell ⟨B, k, none⟩ (.int .u8 v)) k m' (b :: t) := by
  obtain ⟨⟨cs, h1, h2, h3⟩, h4, h5, h6⟩ := h
  subst hv
  refine ⟨⟨_, h1.set k _, by simpa using h2, fun i hi => ?_⟩, h4.setCell h5 _, h5, by simp; omega⟩
  cases i with
  | zero => rw [Nat.add_zero, Array.getElem?_setIfInBounds_self_of_lt (by omega)]; rfl
  | succ i =>
    have := h3 i (by simpa using hi)
    rw [Array.getElem?_setIfInBounds_ne (by omega), show k + (i + 1) = k + 1 + i by omega, this]
    rfl
theorem DgS.cells {w W : World} {B n k m : Nat} {t : List UInt8} (h : DgS w B n W k m t) : ∀ i, (hi : i < t.length) → W.cell? ((⟨B, k, none⟩ : Addr).add i) = some (.int .u8 (t[i].toNat : Int)) := fun i hi => by
  obtain ⟨⟨cs, h1, h2, h3⟩, h4, h5, h6⟩ := h
  rw [Addr.add_mid]
  exact h1.cell _ (h3 i hi)
theorem DgS.there {w W : World} {B n k m : Nat} {t : List UInt8} (h : DgS w B n W (k + 1) m t) : ∃ u, W.cell? ⟨B, k, none⟩ = some u ∧ W.frozen? ⟨B, k, none⟩ = false := by
  obtain ⟨⟨cs, h1, h2, h3⟩, h4, h5, h6⟩ := h
  exact ⟨_, h1.cell k (Array.getElem?_eq_getElem (by omega)), h1.free k⟩
theorem DgS.text {w W : World} {B n k m : Nat} {t : List UInt8} (h : DgS w B n W k m t) (c : Nat) : (convert 40 9 (.slice (some ⟨B, k, none⟩) t.length c)).run Tryd.prog W = .ok (.string (strB t)) W :=
  run_convert_bytes_back W _ _ 5 ⟨B, k, none⟩ c t Tryd.underlying40 Tryd.underlying5 Tryd.underlying9 h.cells
theorem decN_long {n : Nat} (h : n ≤ 9223372036854775808) : (decN n).length ≤ 19 := decN_len 18 n (by omega)
theorem decN_small {m : Nat} (h : m < 10) : decN m = [dg m] := by rw [decN, if_pos h]
theorem decN_big {m : Nat} (h : ¬ m < 10) : decN m = decN (m / 10) ++ [dg (m % 10)] := by rw [decN, if_neg h]
theorem dg_val (m : Nat) : 48 + (m : Int) % 10 = ((dg (m % 10)).toNat : Int) := by
  rw [dg_nat (Nat.mod_lt _ (by decide))]
  omega
theorem u64_neg {n : Int} (h0 : -9223372036854775808 ≤ n) (h : n < 0) : IntKind.u64.wrap (-IntKind.u64.wrap n) = (n.natAbs : Int) := by
  simp only [IntKind.wrap, IntKind.signed, IntKind.bits]
  simp
  omega
theorem u64_pos {n : Int} (h1 : n ≤ 9223372036854775807) (h : ¬ n < 0) : IntKind.u64.wrap n = (n.natAbs : Int) := by
  simp only [IntKind.wrap, IntKind.signed, IntKind.bits]
  simp
  omega
def zero20 : Array Value := #[.int .u8 0, .int .u8 0, .int .u8 0, .int .u8 0, .int .u8 0, .int .u8 0, .int .u8 0, .int .u8 0, .int .u8 0, .int .u8 0, .int .u8 0, .int .u8 0, .int .u8 0, .int .u8 0, .int .u8 0, .int .u8 0, .int .u8 0, .int .u8 0, .int .u8 0, .int .u8 0]
theorem dgs_start (w : World) (n m : Nat) : DgS w w.heap.size n (w.alloc (.cells zero20 235)) 20 m [] :=
  ⟨⟨_, Blk.new _ _ _ _ rfl, rfl, fun i h => absurd h (Nat.not_lt_zero _)⟩, (Below.refl _ _).alloc (Nat.le_refl _) _, Nat.le_refl _, rfl⟩
set_option maxRecDepth 20000 in
set_option maxHeartbeats 2000000 in
theorem decimal_any (n : Int) (h0 : -9223372036854775808 ≤ n) (h1 : n ≤ 9223372036854775807) (w : World) :
    Calls Tryd.prog 162 #[.int .i64 n] w fun e w' => e = .returned (.string (strB (decB n))) ∧ Below w.heap.size w w' := by
  have HL := Lib.hid (decN_long (n := n.natAbs) (by omega))
  by_cases hn : n < 0
  · have HD := Lib.hid (show decB n = 45 :: decN n.natAbs by rw [decB, if_pos hn])
    have e1 := u64_neg h0 hn
    go_enter Tryd.func162, Tryd.ntmps162
    go_wp2_with fail
    go_loopw [4, 5] (fun a x wr => ∃ (k m : Nat) (t : List UInt8), a = .int .i64 k ∧ x = .int .u64 m ∧ DgS w w.heap.size n.natAbs wr k m t ∧ m ≤ 9223372036854775808 ∧ decN m ++ t = decN n.natAbs) (fun _ x _ => (intOf x).toNat)
    case atStart => exact ⟨20, n.natAbs, [], rfl, rfl, dgs_start w _ _, by omega, List.append_nil _⟩
    case round =>
      obtain ⟨k, m, t, rfl, rfl, hd, hbig, he⟩ := hrel
      have hb2 : (m : Int) ≤ 9223372036854775808 := by omega
      have hlen : (decN m).length + t.length ≤ 19 := by
        have h := congrArg List.length he
        rw [List.length_append] at h
        have := HL.out
        omega
      have hpos : 1 ≤ (decN m).length := List.length_pos_iff.2 (canon_decN m).1.ne
      have hsum := hd.sum
      obtain ⟨j, rfl⟩ : ∃ j, k = j + 1 := ⟨k - 1, by omega⟩
      have hj : (j : Int) < 20 := by omega
      obtain ⟨u, cu, fu⟩ := hd.there
      have HDS := Lib.hid (fun m' => hd.put (m' := m') (dg (m % 10)) (dg_val m))
      have HE := Lib.hid he
      have HSUM := Lib.hid hsum
      have hone : m < 10 → 1 ≤ j := fun h => by rw [decN_small h] at hlen; simp at hlen; omega
      clear hd he hlen hpos hsum
      by_cases hm : m < 10
      · have HT := Lib.hid (show dg (m % 10) :: t = decN n.natAbs by rw [← HE.out, decN_small hm, Nat.mod_eq_of_lt hm]; rfl)
        have hz : ((m : Int) / 10 == 0) = true := by rw [beq_iff_eq]; omega
        obtain ⟨i, rfl⟩ : ∃ i, j = i + 1 := ⟨j - 1, by have := hone hm; omega⟩
        clear hone
        go_upto_region 12 with fail
        have HD3 := Lib.hid (HDS.out m)
        clear HDS cu fu
        generalize wr.setCell ⟨w.heap.size, i + 1, none⟩ (.int .u8 (48 + (m : Int) % 10)) = W1 at HD3 ⊢
        obtain ⟨u, cu, fu⟩ := HD3.out.there
        go_upto_region 13 with fail
        have HD4 := Lib.hid (HD3.out.put (m' := m) 45 (v := 45) rfl)
        clear HD3 cu fu
        generalize W1.setCell ⟨w.heap.size, i, none⟩ (.int .u8 45) = W2 at HD4 ⊢
        have g1 : (i : Int) ≤ 20 := by have := HD4.out.sum; omega
        have hi : 20 - i = (45 :: dg (m % 10) :: t).length := by have := HD4.out.sum; omega
        have hx := HD4.out.text (45 :: dg (m % 10) :: t).length
        rw [← hi] at hx
        clear hi
        go_wp2_with fail
        go_ret
        exact ⟨by rw [HD.out, ← HT.out]; rfl, HD4.out.bel⟩
      · clear hone
        have HT := Lib.hid (show decN (m / 10) ++ (dg (m % 10) :: t) = decN n.natAbs by rw [← HE.out, decN_big hm]; simp)
        have hz : ((m : Int) / 10 == 0) = false := by rw [beq_eq_false_iff_ne]; omega
        go_wp2_with fail
        go_roundw
        case rel => exact ⟨j, m / 10, dg (m % 10) :: t, rfl, by simp, HDS.out _, by omega, HT.out⟩
        case measure => simp [intOf]; omega
  · have HD := Lib.hid (show decB n = decN n.natAbs by rw [decB, if_neg hn])
    have e1 := u64_pos h1 hn
    have hd0 : decide (n < 0) = false := by simpa using hn
    go_enter Tryd.func162, Tryd.ntmps162
    go_wp2_with fail
    go_loopw [4, 5] (fun a x wr => ∃ (k m : Nat) (t : List UInt8), a = .int .i64 k ∧ x = .int .u64 m ∧ DgS w w.heap.size n.natAbs wr k m t ∧ m ≤ 9223372036854775808 ∧ decN m ++ t = decN n.natAbs) (fun _ x _ => (intOf x).toNat)
    case atStart => exact ⟨20, n.natAbs, [], rfl, rfl, dgs_start w _ _, by omega, List.append_nil _⟩
    case round =>
      obtain ⟨k, m, t, rfl, rfl, hd, hbig, he⟩ := hrel
      have hb2 : (m : Int) ≤ 9223372036854775808 := by omega
      have hlen : (decN m).length + t.length ≤ 19 := by
        have h := congrArg List.length he
        rw [List.length_append] at h
        have := HL.out
        omega
      have hpos : 1 ≤ (decN m).length := List.length_pos_iff.2 (canon_decN m).1.ne
      have hsum := hd.sum
      obtain ⟨j, rfl⟩ : ∃ j, k = j + 1 := ⟨k - 1, by omega⟩
      have hj : (j : Int) < 20 := by omega
      obtain ⟨u, cu, fu⟩ := hd.there
      have HDS := Lib.hid (fun m' => hd.put (m' := m') (dg (m % 10)) (dg_val m))
      have HE := Lib.hid he
      have HSUM := Lib.hid hsum
      have hone : m < 10 → 1 ≤ j := fun h => by rw [decN_small h] at hlen; simp at hlen; omega
      clear hd he hlen hpos hsum
      by_cases hm : m < 10
      · have HT := Lib.hid (show dg (m % 10) :: t = decN n.natAbs by rw [← HE.out, decN_small hm, Nat.mod_eq_of_lt hm]; rfl)
        have hz : ((m : Int) / 10 == 0) = true := by rw [beq_iff_eq]; omega
        clear hone
        go_upto_region 13 with fail
        have HD3 := Lib.hid (HDS.out m)
        clear HDS cu fu
        generalize wr.setCell ⟨w.heap.size, j, none⟩ (.int .u8 (48 + (m : Int) % 10)) = W1 at HD3 ⊢
        have g1 : (j : Int) ≤ 20 := by have := HD3.out.sum; omega
        have hi : 20 - j = (dg (m % 10) :: t).length := by have := HD3.out.sum; omega
        have hx := HD3.out.text (dg (m % 10) :: t).length
        rw [← hi] at hx
        clear hi
        go_wp2_with fail
        go_ret
        exact ⟨by rw [HD.out, ← HT.out]; rfl, HD3.out.bel⟩
      · clear hone
        have HT := Lib.hid (show decN (m / 10) ++ (dg (m % 10) :: t) = decN n.natAbs by rw [← HE.out, decN_big hm]; simp)
        have hz : ((m : Int) / 10 == 0) = false := by rw [beq_eq_false_iff_ne]; omega
        go_wp2_with fail
        go_roundw
        case rel => exact ⟨j, m / 10, dg (m % 10) :: t, rfl, by simp, HDS.out _, by omega, HT.out⟩
        case measure => simp [intOf]; omega
end Go.Proofs.YtmkcooamgojbpaaDoor.Lines
