/- Parts of the proof: ShReader, ShAll. -/
import Derived.Test.YtmkcooamgojbpaaGreatDoorPart24
import Derived.Test.YtmkcooamgojbpaaGreatDoorPart17
import Derived.Deep.LoopGhost

/- sheet.reader: next, took. -/
namespace Go.Proofs.YtmkcooamgojbpaaGreatDoor.Sheet
open Go.RowKit Go.Proofs.YtmkcooamgojbpaaGreatDoor.Kit Go.Proofs.YtmkcooamgojbpaaGreatDoor.Blk Go.Proofs.YtmkcooamgojbpaaGreatDoor.Words Go.Proofs.YtmkcooamgojbpaaGreatDoor.Octets Go.Proofs.YtmkcooamgojbpaaGreatDoor.Lines Go.Proofs.YtmkcooamgojbpaaGreatDoor.Dec
attribute [local go_sem ↓] Go.wp_at_zero Go.wp_at_succ
set_option linter.unusedVariables false

/-- A reader at P: the pieces that are left, and how many lines were read. -/
structure RdS (P : Nat) (ps : List Txt) (n : Nat) (W : World) : Prop where
  box : Blk W P #[.string (strB (joinW 10 ps)), .int .i64 (n : Int)] 84
  free : ∀ x ∈ ps, (10 : UInt8) ∉ x
  ne : ps ≠ []
  len : (joinW 10 ps).length ≤ 90000
  few : n + ps.length ≤ 100000
theorem RdS.blk {P : Nat} {ps : List Txt} {n : Nat} {W W' : World} (h : RdS P ps n W) (hb : Blk W' P #[.string (strB (joinW 10 ps)), .int .i64 (n : Int)] 84) : RdS P ps n W' := ⟨hb, h.free, h.ne, h.len, h.few⟩
/-- The line that comes. -/
def headT' : List Txt → Txt × Bool
  | [] => ([], false)
  | [x] => (x, false)
  | x :: _ :: _ => (x, true)
theorem next_cut {ps : List Txt} (hf : ∀ x ∈ ps, (10 : UInt8) ∉ x) (hne : ps ≠ []) : ∃ r, Lib.cut (joinW 10 ps) [10] = ((headT' ps).1, r, (headT' ps).2) ∧ ∀ x y t, ps = x :: y :: t → r = joinW 10 (y :: t) := by
  match ps, hne with
  | [x], _ => exact ⟨[], cut_none (hf x List.mem_cons_self), fun _ _ _ h => (by cases h)⟩
  | x :: y :: t, _ =>
    refine ⟨joinW 10 (y :: t), ?_, fun a b c h => by injection h with _ h; rw [h]⟩
    rw [join_cons (by simp)]
    exact cut_at (hf x List.mem_cons_self) _
theorem next_any (P n : Nat) (ps : List Txt) (w : World) (hm : MX w) (h : RdS P ps n w) :
    Calls Tryz.prog 36 #[.pointer (some ⟨P, 0, none⟩)] w fun e w' => e = .returned (.tuple #[.string (strB (headT' ps).1), .bool (headT' ps).2]) ∧ Below w.heap.size w w' := by
  obtain ⟨r, hr, -⟩ := next_cut h.free h.ne
  have HC := Lib.hid (cut_any (joinW 10 ps) 10 w hm (by have := h.len; omega))
  rw [hr] at HC
  have c0 := h.box.cell 0 rfl
  generalize (headT' ps).1 = a at HC ⊢
  generalize (headT' ps).2 = b at HC ⊢
  clear h hm hr
  go_enter Tryz.func36, Tryz.ntmps36
  go_wp2_with fail
  refine HC.out.mono ?_
  rintro e w2 ⟨rfl, k, rfl⟩
  go_wp2_with fail
  go_ret2
  exact ⟨rfl, (Below.refl _ _).drewN k⟩
theorem took_any (P n : Nat) (x y : Txt) (t : List Txt) (w : World) (hm : MX w) (h : RdS P (x :: y :: t) n w) :
    Calls Tryz.prog 40 #[.pointer (some ⟨P, 0, none⟩)] w fun e w' => e = .returned (.tuple #[]) ∧ RdS P (y :: t) (n + 1) w' ∧ Chg w.heap.size P w w' := by
  obtain ⟨r, hr, hr2⟩ := next_cut h.free h.ne
  obtain rfl := hr2 x y t rfl
  have HC := Lib.hid (cut_any (joinW 10 (x :: y :: t)) 10 w hm (by have := h.len; omega))
  rw [hr] at HC
  have HB := Lib.hid h.box
  have c0 := h.box.cell 0 rfl
  have c1 := h.box.cell 1 rfl
  have f0 := h.box.free 0
  have f1 := h.box.free 1
  have hfew := h.few
  have HQ := Lib.hid (show ∀ W, Blk W P #[.string (strB (joinW 10 (y :: t))), .int .i64 (((n + 1 : Nat)) : Int)] 84 → RdS P (y :: t) (n + 1) W from fun W hb => ⟨hb, fun z hz => h.free z (List.mem_cons_of_mem _ hz), by simp, by
    have := h.len
    rw [join_cons (by simp)] at this
    simp at this ⊢
    omega, by have := h.few; simp at this ⊢; omega⟩)
  have g1 : (n : Int) + 1 ≤ 100000 := by simp at hfew; omega
  clear h hm hr hr2 hfew
  generalize strB (joinW 10 (y :: t)) = r at HC HQ
  go_enter Tryz.func40, Tryz.ntmps40
  go_wp2_with fail
  refine HC.out.mono ?_
  rintro e w2 ⟨rfl, k, rfl⟩
  have HB2 := Lib.hid (show Blk (((w.drewN k).setCell ⟨P, 0, none⟩ (.string r)).setCell ⟨P, 1, none⟩ (.int .i64 ((n : Int) + 1))) P #[.string r, .int .i64 ((n : Int) + 1)] 84 from ((HB.out.drewN k).set 0 _).set 1 _)
  have HC2 := Lib.hid (show Chg w.heap.size P w (((w.drewN k).setCell ⟨P, 0, none⟩ (.string r)).setCell ⟨P, 1, none⟩ (.int .i64 ((n : Int) + 1))) from (((Chg.refl w.heap.size P w).step ((Below.refl _ _).drewN k)).setCell ⟨P, 0, none⟩ _ (.inl rfl)).setCell ⟨P, 1, none⟩ _ (.inl rfl))
  have c0' : (w.drewN k).cell? ⟨P, 0, none⟩ = _ := c0
  have c1' : (w.drewN k).cell? ⟨P, 1, none⟩ = _ := c1
  have f0' : (w.drewN k).frozen? ⟨P, 0, none⟩ = _ := f0
  have f1' : (w.drewN k).frozen? ⟨P, 1, none⟩ = _ := f1
  go_wp2_with fail
  go_end0
  exact ⟨rfl, HQ.out _ (by simpa using HB2.out), HC2.out⟩
end Go.Proofs.YtmkcooamgojbpaaGreatDoor.Sheet

/- (*sheet.reader).all: lines, as long as they are taken. -/
namespace Go.Proofs.YtmkcooamgojbpaaGreatDoor.Sheet
open Go.RowKit Go.Proofs.YtmkcooamgojbpaaGreatDoor.Kit Go.Proofs.YtmkcooamgojbpaaGreatDoor.Blk Go.Proofs.YtmkcooamgojbpaaGreatDoor.Words Go.Proofs.YtmkcooamgojbpaaGreatDoor.Octets Go.Proofs.YtmkcooamgojbpaaGreatDoor.Lines Go.Proofs.YtmkcooamgojbpaaGreatDoor.Dec
attribute [local go_sem ↓] Go.wp_at_zero Go.wp_at_succ
set_option linter.unusedVariables false

/-- What taking a line does. -/
def TakesL {α : Type} (p : Txt → Option α) (w0 : World) (P : Nat) (J : List α → World → Prop) (line : Txt) (r : List α) (w : World) (e : Ending) (w' : World) : Prop :=
  (∃ a, p line = some a ∧ e = .returned (.int .i64 0) ∧ J (r ++ [a]) w' ∧ Below w0.heap.size w0 w' ∧ ∀ cs, Blk w P cs 84 → Blk w' P cs 84) ∨
  (p line = none ∧ e = .returned (.int .i64 4) ∧ J r w' ∧ Below w0.heap.size w0 w' ∧ ∀ cs, Blk w P cs 84 → Blk w' P cs 84)
structure AllS {α : Type} (p : Txt → Option α) (w0 : World) (P : Nat) (J : List α → World → Prop) (ps : List Txt) (n : Nat) (r : List α) (qs : List Txt) (m : Nat) (s : List α) (w : World) : Prop where
  rd : RdS P qs m w
  j : J s w
  bel : Below w0.heap.size w0 w
  h1 : s ++ (takeG p qs).1 = r ++ (takeG p ps).1
  h2 : (takeG p qs).2 = (takeG p ps).2
  h3 : m + (takeG p qs).1.length = n + (takeG p ps).1.length
def AllIs {α : Type} (p : Txt → Option α) (w0 : World) (P : Nat) (J : List α → World → Prop) (ps : List Txt) (n : Nat) (r : List α) (e : Ending) (w : World) : Prop :=
  e = .returned (.tuple #[]) ∧ RdS P (takeG p ps).2 (n + (takeG p ps).1.length) w ∧ J (r ++ (takeG p ps).1) w ∧ Below w0.heap.size w0 w
theorem take_len {α : Type} (p : Txt → Option α) : ∀ ps : List Txt, (takeG p ps).1.length ≤ ps.length
  | [] => Nat.le_refl _
  | [x] => Nat.zero_le _
  | x :: y :: t => by
    cases h : p x with
    | none => rw [take_no p h]; simp
    | some a =>
      rw [take_yes p h]
      have := take_len p (y :: t)
      simp at this ⊢
      omega
set_option maxRecDepth 20000 in
set_option maxHeartbeats 4000000 in
theorem all_any {α : Type} (p : Txt → Option α) (g : FuncId) (caps : Array Value) (hgo : ∀ c w, (callFunc g c).run Tryz.prog w = .ok (.enter g c) w) (w0 : World) (hm0 : MX w0) (P : Nat) (hP : w0.heap.size ≤ P) (J : List α → World → Prop)
    (hJ : ∀ r w w', J r w → Below w0.heap.size w0 w → Chg w.heap.size P w w' → J r w')
    (hstep : ∀ line r w, line.length ≤ 90000 → r.length ≤ 100000 → J r w → Below w0.heap.size w0 w → Calls Tryz.prog g (#[.string (strB line)] ++ caps) w (TakesL p w0 P J line r w))
    (ps : List Txt) (n : Nat) (r : List α) (w : World) (hr : RdS P ps n w) (hj : J r w) (hb : Below w0.heap.size w0 w) (hl : r.length + ps.length ≤ 100000) :
    Calls Tryz.prog 41 #[.pointer (some ⟨P, 0, none⟩), .func (.func g) #[] caps] w (AllIs p w0 P J ps n r) := by
  have HJ := Lib.hid hJ
  have HST := Lib.hid hstep
  have HM := Lib.hid hm0
  have H0 := Lib.hid (show AllS p w0 P J ps n r ps n r w from ⟨hr, hj, hb, rfl, rfl, rfl⟩)
  have HPP := Lib.hid hP
  have HLL := Lib.hid hl
  clear hJ hstep hm0 hr hj hb hP hl
  go_enter Tryz.func41, Tryz.ntmps41
  go_wp2_with fail
  go_loopg [5] ps.length (fun k b wr => ∃ qs m s, qs.length ≤ k ∧ AllS p w0 P J ps n r qs m s wr)
  case atStart => exact ⟨ps, n, r, Nat.le_refl _, H0.out⟩
  case round =>
    obtain ⟨qs, m, s, hk, hA⟩ := hrel
    have HA := Lib.hid hA
    have HN := Lib.hid (next_any P m qs wr (HM.out.below (n := 0) hA.bel) hA.rd)
    have HK := Lib.hid hk
    clear hA H0 hk
    match qs with
    | [] => exact absurd rfl HA.out.rd.ne
    | [x] =>
      go_wp2_with fail
      refine HN.out.mono ?_
      rintro e w2 ⟨rfl, hb2⟩
      have HF := Lib.hid (show AllIs p w0 P J ps n r (.returned (.tuple #[])) w2 from by
        have h1 := HA.out.h1
        have h2 := HA.out.h2
        have h3 := HA.out.h3
        rw [take_one] at h1 h2 h3
        refine ⟨rfl, ?_, ?_, HA.out.bel.trans (hb2.mono HA.out.bel.size)⟩
        · rw [← h2, ← h3]
          exact HA.out.rd.blk (HA.out.rd.box.below hb2 HA.out.rd.box.lt)
        · rw [← h1]
          simpa using HJ.out _ _ _ HA.out.j HA.out.bel (Chg.of hb2))
      clear hb2 HN
      simp only [headT']
      go_wp2_with fail
      refine bodyPost_ret (results_none rfl _ _ _) rfl ?_
      exact HF.out
    | x :: y :: t =>
      have HXL := Lib.hid (show x.length ≤ 90000 from by
        have := HA.out.rd.len
        rw [join_cons (by simp)] at this
        simp at this
        omega)
      go_wp2_with fail
      refine HN.out.mono ?_
      rintro e w2 ⟨rfl, hb2⟩
      have HJ2 := Lib.hid (HJ.out _ _ _ HA.out.j HA.out.bel (Chg.of (d := P) hb2))
      have HB2 := Lib.hid (HA.out.bel.trans (hb2.mono HA.out.bel.size))
      have HR2 := Lib.hid (HA.out.rd.blk (HA.out.rd.box.below hb2 HA.out.rd.box.lt))
      have HSL := Lib.hid (show s.length ≤ 100000 from by
        have h1 := congrArg List.length HA.out.h1
        rw [List.length_append, List.length_append] at h1
        have h2 := take_len p ps
        have h3 := HLL.out
        omega)
      have HS2 := Lib.hid (HST.out x s w2 HXL.out HSL.out HJ2.out HB2.out)
      have HQ := Lib.hid (And.intro HA.out.h1 (And.intro HA.out.h2 HA.out.h3))
      clear hb2 HN HA
      simp only [headT']
      go_wp2_with fail
      refine HS2.out.mono ?_
      rintro e w3 (⟨a, hpa, rfl, hj, hb, hk⟩ | ⟨hpa, rfl, hj, hb, hk⟩)
      · have HR3 := Lib.hid (HR2.out.blk (hk _ HR2.out.box))
        have HJ3 := Lib.hid hj
        have HB3 := Lib.hid hb
        have HT := Lib.hid (took_any P m x y t w3 (HM.out.below (n := 0) hb) HR3.out)
        have HQ2 := Lib.hid (show (s ++ [a]) ++ (takeG p (y :: t)).1 = r ++ (takeG p ps).1 ∧ (takeG p (y :: t)).2 = (takeG p ps).2 ∧ m + 1 + (takeG p (y :: t)).1.length = n + (takeG p ps).1.length from by
          obtain ⟨h1, h2, h3⟩ := HQ.out
          rw [take_yes p hpa] at h1 h2 h3
          refine ⟨by rw [← h1]; simp, h2, by rw [← h3]; simp; omega⟩)
        clear hj hb hk hpa HS2 HQ HR2 HJ2 HB2
        go_wp2_with fail
        refine HT.out.mono ?_
        rintro e w4 ⟨rfl, hr4, hc4⟩
        have HA4 := Lib.hid (show AllS p w0 P J ps n r (y :: t) (m + 1) (s ++ [a]) w4 from ⟨hr4, HJ.out _ _ _ HJ3.out HB3.out hc4, HB3.out.trans (hc4.below' HPP.out HB3.out.size), HQ2.out.1, HQ2.out.2.1, HQ2.out.2.2⟩)
        clear hr4 hc4
        go_wp2_with fail
        go_roundg (y :: t).length
        case measure => have := HK.out; simp at this ⊢; omega
        case rel => exact ⟨y :: t, m + 1, s ++ [a], Nat.le_refl _, HA4.out⟩
      · have HF := Lib.hid (show AllIs p w0 P J ps n r (.returned (.tuple #[])) w3 from by
          obtain ⟨h1, h2, h3⟩ := HQ.out
          rw [take_no p hpa] at h1 h2 h3
          refine ⟨rfl, ?_, ?_, hb⟩
          · rw [← h2, ← h3]
            exact HR2.out.blk (hk _ HR2.out.box)
          · rw [← h1]
            simpa using hj)
        clear hj hb hk hpa HS2 HQ
        go_wp2_with fail
        refine bodyPost_ret (results_none rfl _ _ _) rfl ?_
        exact HF.out
end Go.Proofs.YtmkcooamgojbpaaGreatDoor.Sheet
