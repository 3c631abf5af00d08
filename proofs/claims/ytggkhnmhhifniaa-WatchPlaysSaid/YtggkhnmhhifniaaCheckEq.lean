/- The program's answer on a configuration is the document's: rcheckF is checkF. -/
import Derived.Test.YtggkhnmhhifniaaRefCheck
namespace Go.Proofs.Ytggkhnmhhifniaa.CheckEq
open Go.RowKit Go.Proofs.Ytggkhnmhhifniaa.Kit Go.Proofs.Ytggkhnmhhifniaa.Fix Go.Proofs.Ytggkhnmhhifniaa.Symbol Go.Proofs.Ytggkhnmhhifniaa.Table Go.Proofs.Ytggkhnmhhifniaa.Check Go.Proofs.Ytggkhnmhhifniaa.RefSymbol Go.Proofs.Ytggkhnmhhifniaa.RefCheck

theorem few_eq (lo hi n : Int) : few lo hi n = allIn lo hi [n] := by simp [few, allIn]
theorem inR_eq (lo hi n : Int) : inR lo hi n = allIn lo hi [n] := by
  rw [Bool.eq_iff_iff]; simp [inR, allIn]
theorem all_cons (lo hi n m : Int) (l : List Int) : allIn lo hi (n :: m :: l) = (allIn lo hi [n] && allIn lo hi (m :: l)) := by
  simp [allIn]

theorem price_of (s : Sym) (h0 : inR 1 1099511627776 s.grid = true) (h1 : inR 1 1099511627776 s.ref = true) : (price s.ref s.grid == 0) = (s.ref % s.grid == 0) := by
  simp [inR] at h0 h1
  have hd : down s.ref s.grid = s.ref / s.grid * s.grid := by unfold down; rw [if_neg (by omega)]
  have hp : price s.ref s.grid = if s.ref / s.grid * s.grid = s.ref then 0 else 8 := by
    unfold price; rw [if_neg (by omega), if_neg (by omega), hd]
  rw [hp]
  have hm : s.ref % s.grid = s.ref - s.ref / s.grid * s.grid := by
    have := Int.emod_add_mul_ediv s.ref s.grid
    rw [Int.mul_comm] at this
    omega
  by_cases h : s.ref / s.grid * s.grid = s.ref
  · rw [if_pos h, hm, h]; simp
  · rw [if_neg h, hm]; simp; omega

theorem sym_eq (s : Sym) : refSym s = symFault s := by
  unfold refSym symFault r1 r2 r3 r4 r5 r6 r7
  simp only [inR_eq, all_cons, Bool.and_assoc]
  by_cases h0 : allIn 1 1099511627776 [s.grid] = true
  · by_cases h1 : allIn 1 1099511627776 [s.ref] = true
    · rw [price_of s (by rw [inR_eq]; exact h0) (by rw [inR_eq]; exact h1)]
      simp only [h0, h1]
      generalize (s.ref % s.grid == 0) = b1
      generalize allIn 0 9999 [s.static] = a1
      generalize allIn 0 9999 [s.dynamic] = a2
      generalize allIn 0 9999 [s.move] = a3
      generalize allIn 0 9999 [s.collar] = a4
      generalize allIn 0 9999 [s.widen] = a5
      generalize allIn 0 9999 [s.short] = a6
      generalize allIn 1 1099511627776 [s.window] = b2
      generalize allIn 1 1099511627776 [s.limit] = b3
      generalize allIn 1 1099511627776 [s.pause] = b4
      generalize allIn 1 1099511627776 [s.ext] = b5
      generalize allIn 0 10 [s.maxExt] = b6
      generalize allIn 0 3 [s.self] = b7
      generalize allIn 1 500 [s.slots] = b8
      generalize allIn 1 200 [s.levels] = b9
      generalize decide (s.dynamic ≤ s.static) = b10
      cases b1 <;> simp
      cases a1 <;> simp
      cases a2 <;> simp
      cases a3 <;> simp
      cases a4 <;> simp
      cases a5 <;> simp
      cases a6 <;> simp
      cases b2 <;> simp
      cases b3 <;> simp
      cases b4 <;> simp
      cases b5 <;> simp
      cases b6 <;> simp
      cases b7 <;> simp
    · simp only [h1]; simp
  · simp only [h0]; simp

theorem syms_eq (l : List Sym) (i : Nat) : rsymsF l i = symsF l i := by
  induction l generalizing i with
  | nil => rfl
  | cons s l ih => simp only [rsymsF, symsF, sym_eq, ih]

theorem tab_eq (l : List (Int × Int)) : ∀ (last : Int) (i : Nat), 0 ≤ last → rtab l (some last) i = tabFault l last i := by
  induction l with
  | nil => intros; rfl
  | cons r l ih =>
    intro last i h
    obtain ⟨t, p⟩ := r
    simp only [rtab, tabFault]
    have e : (!inR 0 1125899906842624 t || decide (t ≤ last)) = late last t := by
      rw [Bool.eq_iff_iff]; simp [inR, late]; omega
    rw [e, inR_eq]
    cases hl : late last t with
    | true => simp
    | false =>
      have : 0 ≤ t := by simp [late] at hl; omega
      simp only [Bool.false_eq_true, if_false]
      rw [ih t (i + 1) this]

theorem head_eq (l : List (Int × Int)) : rhead l 0 = tabFault l (-1) 0 := by
  show rtab l none 0 = _
  cases l with
  | nil => rfl
  | cons r l =>
    obtain ⟨t, p⟩ := r
    simp only [rtab, tabFault]
    have e : (!inR 0 1125899906842624 t || false) = late (-1) t := by
      rw [Bool.eq_iff_iff]; simp [inR, late]; omega
    rw [e, inR_eq]
    cases hl : late (-1) t with
    | true => simp
    | false =>
      have : 0 ≤ t := by simp [late] at hl; omega
      simp only [Bool.false_eq_true, if_false]
      rw [tab_eq l t (0 + 1) this]

theorem rest_eq (c : Cfg) : restR c = restF c := by
  unfold restR restF fallsF k1 k2 k3
  simp only [inR_eq, all_cons, Bool.and_assoc]
  congr 2
  generalize allIn 1 1099511627776 [c.index] = b1
  generalize allIn 1 1099511627776 [c.h0] = b2
  generalize allIn 1 1099511627776 [c.h1] = b3
  generalize allIn 1 9999 [c.f0] = a1
  generalize allIn 1 9999 [c.f1] = a2
  generalize allIn 1 9999 [c.f2] = a3
  generalize decide (c.f0 < c.f1) = d1
  generalize decide (c.f1 < c.f2) = d2
  revert b1 b2 b3 a1 a2 a3 d1 d2
  decide

theorem check_eq (c : Cfg) : rcheckF c = checkF c := by
  unfold rcheckF checkF rtableF tableF
  simp only [few_eq, syms_eq, head_eq, rest_eq]
end Go.Proofs.Ytggkhnmhhifniaa.CheckEq
