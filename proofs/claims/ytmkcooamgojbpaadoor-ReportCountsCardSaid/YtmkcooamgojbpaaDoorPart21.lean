/- Parts of the proof: Line, StepR. -/
import Derived.Test.YtmkcooamgojbpaaDoorPart20
import Derived.Test.YtmkcooamgojbpaaDoorPart14

/- A line: words put one behind the other. -/
namespace Go.Proofs.YtmkcooamgojbpaaDoor.Lines
open Go.RowKit Go.Proofs.YtmkcooamgojbpaaDoor.Kit Go.Proofs.YtmkcooamgojbpaaDoor.Blk Go.Proofs.YtmkcooamgojbpaaDoor.Dec Go.Proofs.YtmkcooamgojbpaaDoor.Words Go.Proofs.YtmkcooamgojbpaaDoor.Octets
attribute [local go_sem ↓] Go.wp_at_zero Go.wp_at_succ
set_option linter.unusedVariables false

def strs (ws : List (List UInt8)) : List Value := ws.map fun w => Value.string (strB w)
theorem strs_app (a b : List (List UInt8)) : strs (a ++ b) = strs a ++ strs b := by simp [strs]
theorem strs_len (a : List (List UInt8)) : (strs a).length = a.length := by simp [strs]
theorem infoStr : (Tryd.prog.info? 9).map (fun i => (i.zero, i.size, i.bytes)) = some (some (.string ByteArray.empty), 1, 16) := by kernel_rfl
theorem one_strs (a : List (List UInt8)) : ∀ u ∈ strs a, u.oneCell' = true := fun u hu => by
  obtain ⟨b, _, rfl⟩ := List.mem_map.1 hu; rfl
theorem news_strs {w : World} {m : List (List UInt8)} {T B : Nat} (h : Blk w B (strs m).toArray T) : ∀ j u, (strs m)[j]? = some u → w.cell? ((⟨B, 0, none⟩ : Addr).add j) = some u := fun j u hu => by
  rw [Addr.add_mid, Nat.zero_add]; exact h.cell j (by simpa using hu)
/-- A line at block P: its words. -/
abbrev LnS (N P : Nat) (ws : List (List UInt8)) (W : World) : Prop := BR 160 9 N P (strs ws) W
abbrev KeepL (N : Nat) (w w' : World) : Prop := KeepB 160 9 N w w'
/-- Behind a call on a line. -/
def LnIs (N P : Nat) (ws : List (List UInt8)) (w : World) (e : Ending) (w' : World) : Prop := e = .returned (.tuple #[]) ∧ LnS N P ws w' ∧ KeepL N w w'

set_option maxRecDepth 20000 in
theorem put_any (N P : Nat) (hNP : N ≤ P) (ws ts : List (List UInt8)) (hk : ws.length ≤ 10000) (h0 : 0 < ts.length) (hm : ts.length ≤ 10000) (B c : Nat) (w : World) (hN : N ≤ w.heap.size) (hw : LnS N P ws w) (hB : Blk w B (strs ts).toArray 9) :
    Calls Tryd.prog 109 #[.pointer (some ⟨P, 0, none⟩), .slice (some ⟨B, 0, none⟩) ts.length c] w (LnIs N P (ws ++ ts) w) := by
  obtain ⟨i0, hi0, hz0, hz1, hz2⟩ := info_parts infoStr
  obtain ⟨va, vc, hv, hrow⟩ := hw.slice
  have HV := Lib.hid hv
  have HROW := Lib.hid hrow
  have HBB := Lib.hid hB
  have HL := Lib.hid (strs_len ws)
  have hc : w.cell? ⟨P, 0, none⟩ = some (.slice va (strs ws).length vc) := hv.cell 0 rfl
  have HLM := Lib.hid (strs_len ts)
  clear hv hrow hB hw
  go_enter Tryd.func109, Tryd.ntmps109
  go_wp2_with (at_builtin; refine wpList_append_lies _ (by rfl) _ _ _ (by rfl) N 9 i0 (.string ByteArray.empty) 1 16 Tryd.underlying33 hi0 hz0 hz1 hz2 (by rfl) (by decide) _ (strs ws).length (strs ws) (by rfl) HROW.out ⟨B, 0, none⟩ ts.length c (strs ts) (by rfl) (by rw [HLM.out, Nat.mul_one]) (news_strs HBB.out) (one_strs ts) h0 (by unfold maxLen; rw [HL.out]; omega) (by rw [HL.out]; omega) hN w.heap.size rfl ?_; intro ga ca w5 hown hgrow hat hlt5; have HPU := Lib.hid (br_push (ys := strs ts) (by decide) (Below.refl _ _) HV.out HROW.out hNP hN (by rw [HLM.out]; exact hown) hgrow); have c5 : w5.cell? ⟨P, 0, none⟩ = some (.slice va (strs ws).length vc) := (blk_row' HV.out (by decide) HROW.out hgrow).cell 0 rfl; have f5 : w5.frozen? ⟨P, 0, none⟩ = false := (blk_row' HV.out (by decide) HROW.out hgrow).free 0; clear hown hgrow hat hlt5)
  go_end0
  exact ⟨rfl, by show BR _ _ _ _ (strs (ws ++ ts)) _; rw [strs_app]; exact HPU.out.1, HPU.out.2⟩

def ints (l : List Int) : List Value := l.map (Value.int .i64)
theorem LnIs.keep {N P : Nat} {ws : List (List UInt8)} {w W : World} {e : Ending} {w' : World} (h : LnIs N P ws W e w') (hk : KeepL N w W) : LnS N P ws w' ∧ KeepL N w w' := ⟨h.2.1, hk.trans h.2.2⟩
theorem take_map {l : List Int} {k : Nat} (h : k < l.length) (ws : List (List UInt8)) : ws ++ (l.take (k + 1)).map decB = (ws ++ (l.take k).map decB) ++ [decB l[k]] := by
  rw [List.take_succ_eq_append_getElem h, List.map_append, List.append_assoc]; rfl
set_option maxRecDepth 20000 in
set_option maxHeartbeats 2000000 in
theorem nums_any (N P : Nat) (hNP : N ≤ P) (ws : List (List UInt8)) (hk : ws.length ≤ 1000) (l : List Int) (hl : l.length ≤ 1000) (hin : ∀ n ∈ l, -9223372036854775808 ≤ n ∧ n ≤ 9223372036854775807) (B c : Nat) (w : World) (hN : N ≤ w.heap.size) (hw : LnS N P ws w) (hB : Blk w B (ints l).toArray 2) :
    Calls Tryd.prog 110 #[.pointer (some ⟨P, 0, none⟩), .slice (some ⟨B, 0, none⟩) l.length c] w (LnIs N P (ws ++ l.map decB) w) := by
  have HIN := Lib.hid hin
  have HB := Lib.hid hB
  have HW := Lib.hid hw
  clear hin hB hw
  go_enter Tryd.func110, Tryd.ntmps110
  go_wp2_with fail
  go_loopw [8] (fun i wr => ∃ k : Nat, k ≤ l.length ∧ i = .int .i64 k ∧ LnS N P (ws ++ (l.take k).map decB) wr ∧ KeepL N w wr) (fun i _ => l.length - (intOf i).toNat)
  case atStart => exact ⟨0, by omega, rfl, by simpa using HW.out, KeepB.refl _ _ _ _⟩
  case round =>
    obtain ⟨k, hkl, rfl, hs, hkp⟩ := hrel
    have HS := Lib.hid hs
    have HK := Lib.hid hkp
    clear hs hkp
    by_cases hlt : k < l.length
    · have hb := HK.out.blk _ _ _ HB.out (by decide) (by decide)
      have ck : wr.cell? ⟨B, k, none⟩ = some (.int .i64 l[k]) := hb.cell k (by simp [ints, hlt])
      have hi := HIN.out _ (List.getElem_mem hlt)
      have HT := Lib.hid (take_map hlt ws)
      have hlen : (ws ++ (l.take k).map decB).length ≤ 10000 := by simp; omega
      generalize (ws ++ (l.take k).map decB) = us at HS HT hlen
      generalize l[k] = n at ck hi HT
      clear hb
      have hNr : N ≤ wr.heap.size := Nat.le_trans hN HK.out.bel.size
      go_wp2_with fail
      refine (decimal_any n hi.1 hi.2 _).mono ?_
      rintro e w1 ⟨rfl, hb1⟩
      have HS1 := Lib.hid (HS.out.below hb1)
      have HK1 := Lib.hid (HK.out.trans (KeepB.below hNr hb1))
      have hN1 : N ≤ w1.heap.size := Nat.le_trans hNr hb1.size
      clear HS HK hb1 ck
      go_wp2_with fail
      refine (put_any N P hNP us [decB n] hlen (by simp) (by simp) w1.heap.size _ _ (by simp; omega) (HS1.out.alloc _) (Blk.new _ _ _ _ rfl)).mono ?_
      rintro e w2 h2
      have HR := Lib.hid (h2.keep (HK1.out.trans (KeepB.alloc hN1 _)))
      obtain ⟨rfl, -, -⟩ := h2
      clear HS1 HK1
      go_wp2_with fail
      go_roundw
      case rel => exact ⟨k + 1, by omega, by go_num, by rw [HT.out]; exact HR.out.1, HR.out.2⟩
      case measure => simp [intOf]; omega
    · have hk2 : k = l.length := by omega
      have HR := Lib.hid (show LnS N P (ws ++ l.map decB) wr by have := HS.out; rw [hk2, List.take_length] at this; exact this)
      go_wp2_with fail
      go_end0
      exact ⟨rfl, HR.out, HK.out⟩
end Go.Proofs.YtmkcooamgojbpaaDoor.Lines

/- script.Right and damperref29.Right: any step. -/
namespace Go.Proofs.YtmkcooamgojbpaaDoor.Lines
open Go.RowKit Go.Proofs.YtmkcooamgojbpaaDoor.Kit Go.Proofs.YtmkcooamgojbpaaDoor.Blk
attribute [local go_sem ↓] Go.wp_at_zero Go.wp_at_succ
set_option linter.unusedVariables false

/-- Is a step right (n: how many bytes it has)? -/
def rightZ (k y v : Int) (n : Nat) : Bool :=
  if k = 1 then y == 0 && (v == 0 && decide ((n : Int) ≤ 64))
  else if k = 2 ∨ k = 3 then decide ((n : Int) = 0) && y == 0
  else if k = 4 then decide ((n : Int) = 0) && (decide (0 ≤ y) && decide (y ≤ 255))
  else false
set_option maxHeartbeats 1000000 in
theorem sright_any (k y v : Int) (a : Option Addr) (n c : Nat) (w : World) :
    Calls Tryd.prog 108 #[.agg #[.int .i64 k, .int .i64 y, .int .i64 v, .slice a n c]] w fun e w' => e = .returned (.bool (rightZ k y v n)) ∧ Below w.heap.size w w' := by
  go_enter Tryd.func108, Tryd.ntmps108
  go_wp2_with fail
  all_goals (go_ret; refine ⟨ret_bool ?_, (Below.refl _ _).alloc (Nat.le_refl _) _⟩)
  all_goals (rw [Bool.eq_iff_iff]; try simp_all [rightZ])
  all_goals omega
set_option maxHeartbeats 1000000 in
theorem rsright_any (k y v : Int) (a : Option Addr) (n c : Nat) (w : World) :
    Calls Tryd.prog 114 #[.agg #[.int .i64 k, .int .i64 y, .int .i64 v, .slice a n c]] w fun e w' => e = .returned (.bool (rightZ k y v n)) ∧ Below w.heap.size w w' := by
  go_enter Tryd.func114, Tryd.ntmps114
  go_wp2_with fail
  all_goals (go_ret; refine ⟨ret_bool ?_, (Below.refl _ _).alloc (Nat.le_refl _) _⟩)
  all_goals (rw [Bool.eq_iff_iff]; try simp_all [rightZ])
  all_goals omega
end Go.Proofs.YtmkcooamgojbpaaDoor.Lines
