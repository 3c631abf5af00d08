/- The document's rows and a ledger's accounts: plain. -/
import Derived.Test.YtmkcooamgojbpaaL31A
namespace Go.Proofs.Ytmkcooamgojbpaa.Ledger
open Go.Proofs.Ytmkcooamgojbpaa.Mp Go.Proofs.Ytmkcooamgojbpaa.Msgs
set_option linter.unusedVariables false

/-- A key's account is changed. -/
def modD (k : Key) (f : DRow → DRow) : List DRow → List DRow
  | [] => []
  | r :: l => if liveB k r = true then f r :: l else r :: modD k f l
theorem mod_set (k : Key) (f : DRow → DRow) : ∀ l : List DRow, (if h : findN k l < l.length then l.set (findN k l) (f l[findN k l]) else l) = modD k f l := by
  intro l
  induction l with
  | nil => rfl
  | cons r l ih =>
    by_cases h : liveB k r = true
    · have e : findN k (r :: l) = 0 := by unfold findN; rw [List.findIdx_cons, h]; rfl
      simp only [modD, h, if_true, e, List.length_cons, Nat.zero_lt_succ, dite_true, List.set_cons_zero, List.getElem_cons_zero]
    · have h' : liveB k r = false := by simpa using h
      have e : findN k (r :: l) = findN k l + 1 := by unfold findN; rw [List.findIdx_cons, h']; rfl
      simp only [modD, h, e, List.length_cons, List.set_cons_succ, List.getElem_cons_succ, Nat.add_lt_add_iff_right]
      by_cases hl : findN k l < l.length
      · rw [dif_pos hl] at ih
        rw [dif_pos hl, ih]
        simp
      · rw [dif_neg hl] at ih
        rw [dif_neg hl, ← ih]
        simp
theorem fill_mod (k : Key) (q : Int) (l : List DRow) : fillD k q l = modD k (fillR q) l := mod_set k (fillR q) l
theorem old_mod (k : Key) (l : List DRow) : oldD k l = modD k oldR l := mod_set k oldR l
theorem live_key {k j : Key} {r : DRow} (h : liveB k r = true) (hj : liveB j r = true) : j = k := by
  unfold liveB at h hj
  simp only [Bool.and_eq_true, beq_iff_eq] at h hj
  exact Prod.ext (hj.1.1.symm.trans h.1.1) (hj.1.2.symm.trans h.1.2)
theorem acc_cons (k : Key) (r : DRow) (l : List DRow) : accD k (r :: l) = if liveB k r = true then some r.a else accD k l := by
  unfold accD
  rw [List.find?_cons]
  split <;> simp_all
/-- Of the changed list: the key's own account, and any other. -/
theorem acc_mod_same (k : Key) (f : DRow → DRow) (hf : ∀ r, liveB k (f r) = liveB k r) (g : Acc → Acc) (hg : ∀ r, (f r).a = g r.a) (l : List DRow) : accD k (modD k f l) = (accD k l).map g := by
  induction l with
  | nil => rfl
  | cons r l ih =>
    rw [modD]
    split
    · rename_i h
      rw [acc_cons, acc_cons, hf, if_pos h, if_pos h, hg]; rfl
    · rename_i h
      rw [acc_cons, acc_cons, if_neg h, if_neg h, ih]
theorem acc_mod_other (k j : Key) (hj : j ≠ k) (f : DRow → DRow) (hf : ∀ r, liveB k r = true → liveB j (f r) = false) (l : List DRow) : accD j (modD k f l) = accD j l := by
  induction l with
  | nil => rfl
  | cons r l ih =>
    rw [modD]
    split
    · rename_i h
      have h2 : ¬ liveB j r = true := fun e => hj (live_key h e)
      rw [acc_cons, acc_cons, hf r h, if_neg (by simp), if_neg h2]
    · rename_i h
      rw [acc_cons, acc_cons, ih]
theorem acc_snoc (k : Key) (r : DRow) (l : List DRow) : accD k (l ++ [r]) = (accD k l).or (if liveB k r = true then some r.a else none) := by
  induction l with
  | nil => rw [List.nil_append, acc_cons]; rfl
  | cons x l ih =>
    rw [List.cons_append, acc_cons, acc_cons]
    split
    · rfl
    · exact ih
end Go.Proofs.Ytmkcooamgojbpaa.Ledger
