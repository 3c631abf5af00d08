/- ledger.taken: are they quantities? -/
import Derived.Test.YtmkcooamgojbpaaLed
import Derived.Test.YtmkcooamgojbpaaQty
namespace Go.Proofs.Ytmkcooamgojbpaa.Ledger
open Go.RowKit Go.Proofs.Ytmkcooamgojbpaa.Kit Go.Proofs.Ytmkcooamgojbpaa.Blk Go.Proofs.Ytmkcooamgojbpaa.Mp Go.Proofs.Ytmkcooamgojbpaa.Qty
attribute [local go_sem ↓] Go.wp_at_zero Go.wp_at_succ
set_option linter.unusedVariables false

def takenB (n : Int) : Bool := decide (0 ≤ n) && decide (n ≤ 4294967296)
theorem taken1_any (n : Int) (w : World) : Calls Try.prog 28 #[.int .i64 n] w fun e w' => e = .returned (.bool (!takenB n)) ∧ Below w.heap.size w w' := by
  by_cases h0 : n = 0
  · subst h0
    go_enter Try.func28, Try.ntmps28
    go_wp2_with fail
    go_ret
    exact ⟨by simp [takenB], Below.refl _ _⟩
  · have b2 : (n != 0) = true := by simpa using h0
    have HQ := Lib.hid (qty_any n w)
    by_cases h1 : 1 ≤ n ∧ n ≤ 4294967296
    · have HE := Lib.hid (show (!takenB n) = false by simp [takenB]; omega)
      have hq : qtyF n = 0 := if_pos h1
      rw [hq] at HQ
      clear h1 hq
      go_enter Try.func28, Try.ntmps28
      go_wp2_with fail
      refine HQ.out.mono ?_
      rintro e w1 ⟨rfl, hb⟩
      have HB := Lib.hid hb
      clear hb
      go_wp2_with fail
      go_ret
      exact ⟨by rw [HE.out]; rfl, HB.out⟩
    · have HE := Lib.hid (show (!takenB n) = true by simp [takenB]; omega)
      have hq : qtyF n = 9 := if_neg h1
      rw [hq] at HQ
      clear h1 hq
      go_enter Try.func28, Try.ntmps28
      go_wp2_with fail
      refine HQ.out.mono ?_
      rintro e w1 ⟨rfl, hb⟩
      have HB := Lib.hid hb
      clear hb
      go_wp2_with fail
      go_ret
      exact ⟨by rw [HE.out]; rfl, HB.out⟩
def firstNo : List Int → Nat → Int
  | [], _ => -1
  | n :: l, i => if takenB n = false then i else firstNo l (i + 1)
theorem no_hit (l : List Int) (k i : Nat) (h : k < l.length) (hp : takenB l[k] = false) : firstNo (l.drop k) i = i := by
  rw [List.drop_eq_getElem_cons h]
  simp only [firstNo, hp, if_true]
theorem no_miss (l : List Int) (k i : Nat) (h : k < l.length) (hp : takenB l[k] = true) : firstNo (l.drop k) i = firstNo (l.drop (k + 1)) (i + 1) := by
  rw [List.drop_eq_getElem_cons h]
  simp [firstNo, hp]
theorem no_sign (l : List Int) (i : Nat) : decide (0 ≤ firstNo l i) = !l.all takenB := by
  induction l generalizing i with
  | nil => rfl
  | cons n l ih =>
    simp only [firstNo, List.all_cons]
    split
    · rename_i h; simp [h]
    · rename_i h
      have h' : takenB n = true := by simpa using h
      rw [h', ih]
      rfl
set_option maxHeartbeats 1000000 in
theorem tindex_any (a : Option Addr) (cap : Nat) (l : List Int) (w : World) (hm : l.length ≤ maxLen) (hn : Nums w a l) :
    Calls Try.prog 36 #[.slice a l.length cap, .func (.func 28) #[] #[]] w fun e w' => e = .returned (.int .i64 (firstNo l 0)) ∧ Below w.heap.size w w' := by
  unfold maxLen at hm
  have HN := Lib.hid hn
  clear hn
  go_enter Try.func36, Try.ntmps36
  go_wp2_with fail
  go_loopw [8] (fun i wr => ∃ k : Nat, k ≤ l.length ∧ i = .int .i64 k ∧ firstNo (l.drop k) k = firstNo l 0 ∧ Below w.heap.size w wr) (fun i _ => l.length - (intOf i).toNat)
  case atStart => exact ⟨0, by omega, rfl, rfl, Below.refl _ _⟩
  case round =>
    obtain ⟨k, hk, rfl, hf, hbr⟩ := hrel
    have HF := Lib.hid hf
    have HB := Lib.hid hbr
    clear hf hbr
    by_cases hlt : k < l.length
    · obtain ⟨b, off, rfl, hb, hc⟩ := HN.out k hlt
      have ck : wr.cell? ⟨b, off + k, none⟩ = some (.int .i64 l[k]) := by rw [HB.out.cell (p := ⟨b, off + k, none⟩) hb]; exact hc
      have HT := Lib.hid (taken1_any l[k] wr)
      have hkl : (k : Int) < (l.length : Int) := by omega
      by_cases hp : takenB l[k] = true
      · have HH := Lib.hid (no_miss l k k hlt hp)
        rw [hp] at HT
        generalize l[k] = z at ck HT
        clear hp hc
        go_wp2_with fail
        refine HT.out.mono ?_
        rintro e w1 ⟨rfl, hb1⟩
        have HB1 := Lib.hid (HB.out.trans (hb1.mono HB.out.size))
        clear hb1
        go_wp2_with fail
        go_roundw
        case rel => exact ⟨k + 1, by omega, by go_num, by rw [← HH.out, HF.out], HB1.out⟩
        case measure => simp [intOf]; omega
      · have hp : takenB l[k] = false := by simpa using hp
        have HH := Lib.hid (no_hit l k k hlt hp)
        rw [hp] at HT
        generalize l[k] = z at ck HT
        clear hp hc
        go_wp2_with fail
        refine HT.out.mono ?_
        rintro e w1 ⟨rfl, hb1⟩
        have HB1 := Lib.hid (HB.out.trans (hb1.mono HB.out.size))
        clear hb1
        go_wp2_with fail
        go_ret
        exact ⟨by rw [← HF.out, HH.out]; rfl, HB1.out⟩
    · go_wp2_with fail
      go_ret
      exact ⟨by rw [← HF.out, List.drop_eq_nil_of_le (by omega)]; rfl, HB.out⟩
theorem tcontains_any (a : Option Addr) (cap : Nat) (l : List Int) (w : World) (hm : l.length ≤ maxLen) (hn : Nums w a l) :
    Calls Try.prog 27 #[.slice a l.length cap, .func (.func 28) #[] #[]] w fun e w' => e = .returned (.bool (!l.all takenB)) ∧ Below w.heap.size w w' := by
  have HS := Lib.hid (no_sign l 0)
  have HI := Lib.hid (tindex_any a cap l w hm hn)
  clear hm hn
  go_enter Try.func27, Try.ntmps27
  go_wp2_with fail
  refine HI.out.mono ?_
  rintro e w1 ⟨rfl, hb⟩
  have HB := Lib.hid hb
  clear hb
  go_wp2_with fail
  go_ret
  exact ⟨by rw [← HS.out]; rfl, HB.out⟩
theorem taken_any (a : Option Addr) (cap : Nat) (l : List Int) (w : World) (hm : l.length ≤ maxLen) (hn : Nums w a l) :
    Calls Try.prog 14 #[.slice a l.length cap] w fun e w' => e = .returned (.bool (l.all takenB)) ∧ Below w.heap.size w w' := by
  have HI := Lib.hid (tcontains_any a cap l w hm hn)
  clear hm hn
  generalize l.all takenB = t at HI ⊢
  go_enter Try.func14, Try.ntmps14
  go_wp2_with fail
  refine HI.out.mono ?_
  rintro e w1 ⟨rfl, hb⟩
  have HB := Lib.hid hb
  clear hb
  go_wp2_with fail
  go_ret
  exact ⟨by simp, HB.out⟩
end Go.Proofs.Ytmkcooamgojbpaa.Ledger
