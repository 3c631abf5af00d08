/- damperref07.Check: the document's fault of a configuration, and where. -/
import Derived.Test.YtggkhnmhhifniaaRefSymbol
import Derived.Test.YtggkhnmhhifniaaCheck
namespace Go.Proofs.Ytggkhnmhhifniaa.RefCheck
open Go.RowKit Go.Proofs.Ytggkhnmhhifniaa.Kit Go.Proofs.Ytggkhnmhhifniaa.All Go.Proofs.Ytggkhnmhhifniaa.Symbol Go.Proofs.Ytggkhnmhhifniaa.Table Go.Proofs.Ytggkhnmhhifniaa.Check Go.Proofs.Ytggkhnmhhifniaa.RefSymbol

def rsymsF : List Sym → Nat → Int × Int
  | [], _ => (0, 0)
  | s :: l, i => if refSym s = 0 then rsymsF l (i + 1) else (refSym s, (i : Int))
theorem syms_hit (l : List Sym) (k : Nat) (h : k < l.length) (hp : ¬ refSym l[k] = 0) : rsymsF (l.drop k) k = (refSym l[k], (k : Int)) := by
  rw [List.drop_eq_getElem_cons h]; simp [rsymsF, hp]
theorem syms_miss (l : List Sym) (k : Nat) (h : k < l.length) (hp : refSym l[k] = 0) : rsymsF (l.drop k) k = rsymsF (l.drop (k + 1)) (k + 1) := by
  rw [List.drop_eq_getElem_cons h]; simp [rsymsF, hp]

/-- The rows of a table, each behind the one ahead of it; the first has none ahead. -/
def rtab : List (Int × Int) → Option Int → Nat → Int × Int
  | [], _, _ => (0, 0)
  | (t, p) :: l, last, i => if !inR 0 1125899906842624 t || (match last with | none => false | some b => decide (t ≤ b)) then (9, (i : Int)) else if inR 0 2 p then rtab l (some t) (i + 1) else (10, (i : Int))
def before (l : List (Int × Int)) : Nat → Option Int
  | 0 => none
  | k + 1 => l[k]?.map (·.1)
def rhead (l : List (Int × Int)) (k : Nat) : Int × Int := rtab (l.drop k) (before l k) k

theorem rhead_out (l : List (Int × Int)) (k : Nat) (h : k < l.length) (h1 : inR 0 1125899906842624 l[k].1 = false) : rhead l k = (9, (k : Int)) := by
  unfold rhead; rw [List.drop_eq_getElem_cons h]; simp [rtab, h1]
theorem rhead_late (l : List (Int × Int)) (k : Nat) (h : k + 1 < l.length) (h1 : l[k + 1].1 ≤ l[k].1) : rhead l (k + 1) = (9, ((k + 1 : Nat) : Int)) := by
  unfold rhead; rw [List.drop_eq_getElem_cons h]
  have hk : k < l.length := by omega
  simp [rtab, before, hk, h1]
theorem rhead_phase0 (l : List (Int × Int)) (h : 0 < l.length) (h1 : inR 0 1125899906842624 l[0].1 = true) (h2 : inR 0 2 l[0].2 = false) : rhead l 0 = (10, ((0 : Nat) : Int)) := by
  unfold rhead; rw [List.drop_eq_getElem_cons h]; simp [rtab, before, h1, h2]
theorem rhead_on0 (l : List (Int × Int)) (h : 0 < l.length) (h1 : inR 0 1125899906842624 l[0].1 = true) (h2 : inR 0 2 l[0].2 = true) : rhead l 0 = rhead l 1 := by
  unfold rhead; rw [List.drop_eq_getElem_cons h]; simp [rtab, before, h1, h2, h]
theorem rhead_phase (l : List (Int × Int)) (k : Nat) (h : k + 1 < l.length) (h1 : inR 0 1125899906842624 l[k + 1].1 = true) (h2 : l[k].1 < l[k + 1].1) (h3 : inR 0 2 l[k + 1].2 = false) : rhead l (k + 1) = (10, ((k + 1 : Nat) : Int)) := by
  unfold rhead; rw [List.drop_eq_getElem_cons h]
  have hk : k < l.length := by omega
  have h2' : ¬ l[k + 1].1 ≤ l[k].1 := by omega
  simp [rtab, before, hk, h1, h2', h3]
theorem rhead_on (l : List (Int × Int)) (k : Nat) (h : k + 1 < l.length) (h1 : inR 0 1125899906842624 l[k + 1].1 = true) (h2 : l[k].1 < l[k + 1].1) (h3 : inR 0 2 l[k + 1].2 = true) : rhead l (k + 1) = rhead l (k + 2) := by
  unfold rhead; rw [List.drop_eq_getElem_cons h]
  have hk : k < l.length := by omega
  have h2' : ¬ l[k + 1].1 ≤ l[k].1 := by omega
  simp [rtab, before, hk, h1, h2', h3, h]

/-- The falls, one behind the other, then the halts. -/
def fallsF (c : Cfg) : Bool := inR 1 9999 c.f0 && inR 1 9999 c.f1 && decide (c.f0 < c.f1) && inR 1 9999 c.f2 && decide (c.f1 < c.f2)
def restR (c : Cfg) : Int := if inR 1 1099511627776 c.index && fallsF c && inR 1 1099511627776 c.h0 && inR 1 1099511627776 c.h1 then 0 else 9
def few (lo hi n : Int) : Bool := !(decide (n < lo) || decide (hi < n))
def rtableF (l : List (Int × Int)) : Int × Int := if few 1 20 (l.length : Int) then rhead l 0 else (9, 0)
def rcheckF (c : Cfg) : Int × Int :=
  if few 1 8 (c.syms.length : Int) then
    (if (rsymsF c.syms 0).1 = 0 then
      (if (rtableF c.tab).1 = 0 then (restR c, 0) else rtableF c.tab)
    else rsymsF c.syms 0)
  else (9, 0)

theorem check_none (c : Cfg) (h : few 1 8 (c.syms.length : Int) = false) : rcheckF c = (9, 0) := by simp [rcheckF, h]
theorem check_sym (c : Cfg) (h : few 1 8 (c.syms.length : Int) = true) (hs : (rsymsF c.syms 0).1 ≠ 0) : rcheckF c = rsymsF c.syms 0 := by simp [rcheckF, h, hs]
theorem check_tab (c : Cfg) (h : few 1 8 (c.syms.length : Int) = true) (hs : (rsymsF c.syms 0).1 = 0) (ht : (rtableF c.tab).1 ≠ 0) : rcheckF c = rtableF c.tab := by simp [rcheckF, h, hs, ht]
theorem check_last (c : Cfg) (h : few 1 8 (c.syms.length : Int) = true) (hs : (rsymsF c.syms 0).1 = 0) (ht : (rtableF c.tab).1 = 0) : rcheckF c = (restR c, 0) := by simp only [rcheckF, h, if_true, hs, ht]
theorem tab_none (l : List (Int × Int)) (h : few 1 20 (l.length : Int) = false) : rtableF l = (9, 0) := by simp [rtableF, h]
theorem tab_some (l : List (Int × Int)) (h : few 1 20 (l.length : Int) = true) : rtableF l = rhead l 0 := by simp [rtableF, h]
end Go.Proofs.Ytggkhnmhhifniaa.RefCheck
