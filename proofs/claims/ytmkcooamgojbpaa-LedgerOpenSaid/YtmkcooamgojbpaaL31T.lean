/- The document's ledger: trade. -/
import Derived.Test.YtmkcooamgojbpaaL31F
import Derived.Test.YtmkcooamgojbpaaGrow
import Derived.Test.YtmkcooamgojbpaaLedAckF
import Derived.Deep.RegionHeld3
import Derived.Deep.DrawnRows
namespace Go.Proofs.Ytmkcooamgojbpaa.Ledger
open Go.RowKit Go.Proofs.Ytmkcooamgojbpaa.Kit Go.Proofs.Ytmkcooamgojbpaa.Blk Go.Proofs.Ytmkcooamgojbpaa.Mp Go.Proofs.Ytmkcooamgojbpaa.Msgs Go.Proofs.Ytmkcooamgojbpaa.Own
attribute [local go_sem ↓] Go.wp_at_zero Go.wp_at_succ
set_option linter.unusedVariables false

def fillD (k : Key) (q : Int) (l : List DRow) : List DRow := if h : findN k l < l.length then l.set (findN k l) (fillR q l[findN k l]) else l
theorem find_set {k : Key} {r' : DRow} : ∀ {l : List DRow} {i : Nat} (hi : i < l.length), liveB k r' = liveB k l[i] → findN k (l.set i r') = findN k l := by
  intro l
  induction l with
  | nil => intro i hi; simp at hi
  | cons r l ih =>
    intro i hi h
    cases i with
    | zero =>
      rw [List.getElem_cons_zero] at h
      rw [List.set_cons_zero]
      unfold findN
      rw [List.findIdx_cons, List.findIdx_cons, h]
    | succ i =>
      rw [List.getElem_cons_succ] at h
      have := ih (i := i) (by simpa using hi) h
      rw [List.set_cons_succ]
      unfold findN at this ⊢
      rw [List.findIdx_cons, List.findIdx_cons, this]
def FineL (b : Int) (l : List DRow) : Prop := ∀ r ∈ l, AccIn b r.a
theorem fill_k (N R : Nat) (l es : List DRow) (v u : Value) (k : Key) (q : Int) (w : World) (h : RS N w R l es v u) (hr : (accD k l).isSome = true) (hq : 0 ≤ q ∧ q ≤ 4294967296) (hl : FineL 1125899906842624 l) :
    Calls Try.prog 32 #[.pointer (some ⟨R, 0, none⟩), .int .i64 k.1, .int .i64 k.2, .int .i64 q] w fun e w' => e = .returned (.tuple #[]) ∧ RS N w' R (fillD k q l) es v u ∧ w.grownBy w' v.ownBlock := by
  rcases find_acc (k := k) (l := l) with ⟨i, hi, hn, hfd, hac, hlv⟩ | ⟨hfd, hac⟩
  · have e : fillD k q l = l.set i (fillR q l[i]) := by
      subst hn
      unfold fillD
      rw [dif_pos hi]
    rw [e]
    exact fillr_any N R l es v u k.1 k.2 q w h i hi hfd hq (hl _ (List.getElem_mem hi))
  · rw [hac] at hr; cases hr
theorem fill_len (k : Key) (q : Int) (l : List DRow) : (fillD k q l).length = l.length := by
  unfold fillD
  split
  · rw [List.length_set]
  · rfl
theorem rests_some {k : Key} {l : List DRow} {q : Int} (h : restsD k l q = true) : ∃ a, accD k l = some a ∧ q ≤ a.rest := by
  unfold restsD at h
  cases e : accD k l with
  | none => rw [e] at h; cases h
  | some a => rw [e] at h; exact ⟨a, rfl, by simpa using h⟩
theorem acc_mem {k : Key} {l : List DRow} {a : Acc} (h : accD k l = some a) : ∃ r ∈ l, r.a = a := by
  rcases find_acc (k := k) (l := l) with ⟨i, hi, hn, hfd, hac, hlv⟩ | ⟨hfd, hac⟩
  · rw [h] at hac
    injection hac with hac
    exact ⟨l[i], List.getElem_mem hi, hac.symm⟩
  · rw [h] at hac; cases hac
theorem fine_fill {b : Int} {k : Key} {q : Int} {l : List DRow} (h : FineL b l) (hq : 0 ≤ q ∧ q ≤ 4294967296) (hr : restsD k l q = true) : FineL (b + 4294967296) (fillD k q l) := by
  intro r hr'
  unfold fillD at hr'
  split at hr'
  · rename_i hi
    rcases List.mem_or_eq_of_mem_set hr' with hm | rfl
    · exact (h r hm).mono (by omega)
    · have ha := h _ (List.getElem_mem hi)
      obtain ⟨a, hac, hqa⟩ := rests_some hr
      rcases find_acc (k := k) (l := l) with ⟨i, hi', hn, hfd, hac', hlv⟩ | ⟨hfd, hac'⟩
      · subst hn
        rw [hac] at hac'
        injection hac' with hac'
        subst hac'
        exact fill_in ha hq hqa
      · rw [hac] at hac'; cases hac'
  · exact (h r hr').mono (by omega)
/-- A key's account is found behind a fill as before. -/
theorem fill_some {k j : Key} {q : Int} {l : List DRow} (h : (accD j l).isSome = true) : (accD j (fillD k q l)).isSome = true := by
  have hlen := fill_len k q l
  have hn : findN j (fillD k q l) = findN j l := by
    unfold fillD
    split
    · rename_i hi
      exact find_set hi rfl
    · rfl
  rcases find_acc (k := j) (l := l) with ⟨i, hi', hn', hfd, hac', hlv⟩ | ⟨hfd, hac'⟩
  · rcases find_acc (k := j) (l := fillD k q l) with ⟨i2, hi2, hn2, hfd2, hac2, hlv2⟩ | ⟨hfd2, hac2⟩
    · rw [hac2]; rfl
    · exfalso
      unfold findD at hfd hfd2
      rw [hn, hlen] at hfd2
      rw [hfd2] at hfd
      omega
  · rw [hac'] at h; cases h
def earlyR (m : Msg) : DRow := ⟨m.sym, m.wth, ⟨0, m.qty, 0, 0⟩, false⟩
def tradeD (l es : List DRow) (m : Msg) : List DRow × List DRow :=
  if restsD (keyM m) l m.qty = true then
    (if m.code = 1 then (fillD (keyM m) m.qty l, es ++ [earlyR m])
     else if m.id = m.wth then (l, es)
     else if restsD (keyW m) l m.qty = true then (fillD (keyW m) m.qty (fillD (keyM m) m.qty l), es) else (l, es))
  else (l, es)
/-- What a message does to the document. -/
def RPutIs (N R : Nat) (le : List DRow × List DRow) (w : World) (e : Ending) (w' : World) : Prop :=
  (∃ c : Int, e = .returned (.int .i64 c)) ∧ (∃ v u, RS N w' R le.1 le.2 v u) ∧ Chg N R w w'
end Go.Proofs.Ytmkcooamgojbpaa.Ledger
