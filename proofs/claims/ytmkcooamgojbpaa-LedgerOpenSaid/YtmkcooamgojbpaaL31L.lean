/- The ledger and the document agree behind any message: plain. -/
import Derived.Test.YtmkcooamgojbpaaL31E
import Derived.Test.YtmkcooamgojbpaaL31O
namespace Go.Proofs.Ytmkcooamgojbpaa.Ledger
open Go.Proofs.Ytmkcooamgojbpaa.Mp Go.Proofs.Ytmkcooamgojbpaa.Msgs
set_option linter.unusedVariables false

def keyR (r : DRow) : Key := (r.sym, r.id)
def liveK (l : List DRow) : List Key := (l.filter fun r => !r.old).map keyR
theorem live_iff {k : Key} {r : DRow} : liveB k r = true ↔ keyR r = k ∧ r.old = false := by
  obtain ⟨k1, k2⟩ := k
  unfold liveB keyR
  simp only [Bool.and_eq_true, beq_iff_eq, Bool.not_eq_true', Prod.mk.injEq]
theorem liveK_cons (r : DRow) (l : List DRow) : liveK (r :: l) = if r.old = true then liveK l else keyR r :: liveK l := by
  unfold liveK
  rw [List.filter_cons]
  cases r.old <;> simp
theorem liveK_snoc (r : DRow) (l : List DRow) : liveK (l ++ [r]) = liveK l ++ (if r.old = true then [] else [keyR r]) := by
  unfold liveK
  rw [List.filter_append, List.map_append]
  cases h : r.old <;> simp [h]
theorem acc_none_iff {k : Key} : ∀ {l : List DRow}, accD k l = none ↔ k ∉ liveK l := by
  intro l
  induction l with
  | nil => simp [accD, liveK]
  | cons r l ih =>
    rw [acc_cons, liveK_cons]
    by_cases h : liveB k r = true
    · rw [if_pos h]
      obtain ⟨h1, h2⟩ := live_iff.1 h
      simp [h2, h1]
    · rw [if_neg h, ih]
      cases ho : r.old with
      | true => simp
      | false =>
        have hne : ¬ keyR r = k := fun e => h (live_iff.2 ⟨e, ho⟩)
        simp [Ne.symm hne]
theorem liveK_mod (k : Key) (f : DRow → DRow) (hf : ∀ r, keyR (f r) = keyR r ∧ (f r).old = r.old) : ∀ l : List DRow, liveK (modD k f l) = liveK l := by
  intro l
  induction l with
  | nil => rfl
  | cons r l ih =>
    rw [modD]
    split
    · rw [liveK_cons, liveK_cons, (hf r).1, (hf r).2]
    · rw [liveK_cons, liveK_cons, ih]
theorem liveK_old (k : Key) : ∀ l : List DRow, liveK (modD k oldR l) = (liveK l).erase k := by
  intro l
  induction l with
  | nil => rfl
  | cons r l ih =>
    rw [modD]
    by_cases h : liveB k r = true
    · obtain ⟨h1, h2⟩ := live_iff.1 h
      rw [if_pos h, liveK_cons, liveK_cons, h2, h1]
      simp [oldR]
    · rw [if_neg h, liveK_cons, liveK_cons, ih]
      cases ho : r.old with
      | true => simp
      | false =>
        have hne : ¬ keyR r = k := fun e => h (live_iff.2 ⟨e, ho⟩)
        simp [hne]
theorem mem_mod {k : Key} {f : DRow → DRow} {x : DRow} : ∀ {l : List DRow}, x ∈ modD k f l → x ∈ l ∨ ∃ r ∈ l, liveB k r = true ∧ x = f r := by
  intro l
  induction l with
  | nil => intro h; cases h
  | cons r l ih =>
    intro h
    rw [modD] at h
    split at h
    · rename_i hr
      rcases List.mem_cons.1 h with rfl | h
      · exact .inr ⟨r, List.mem_cons_self, hr, rfl⟩
      · exact .inl (List.mem_cons_of_mem _ h)
    · rcases List.mem_cons.1 h with rfl | h
      · exact .inl List.mem_cons_self
      · rcases ih h with h | ⟨y, hy, h1, h2⟩
        · exact .inl (List.mem_cons_of_mem _ h)
        · exact .inr ⟨y, List.mem_cons_of_mem _ hy, h1, h2⟩
theorem mod_len (k : Key) (f : DRow → DRow) : ∀ l : List DRow, (modD k f l).length = l.length := by
  intro l
  induction l with
  | nil => rfl
  | cons r l ih => rw [modD]; split <;> simp [ih]
theorem acc_live {k : Key} {y : DRow} : ∀ {l : List DRow}, y ∈ l → liveB k y = true → (liveK l).Nodup → accD k l = some y.a := by
  intro l
  induction l with
  | nil => intro h; cases h
  | cons x l ih =>
    intro hm hlv hn
    rw [acc_cons]
    rw [liveK_cons] at hn
    rcases List.mem_cons.1 hm with rfl | hm
    · rw [if_pos hlv]
    · by_cases hx : liveB k x = true
      · exfalso
        obtain ⟨e1, e2⟩ := live_iff.1 hx
        obtain ⟨e3, e4⟩ := live_iff.1 hlv
        rw [e2, if_neg (by simp), List.nodup_cons] at hn
        refine hn.1 ?_
        rw [e1, ← e3]
        exact List.mem_map_of_mem (List.mem_filter.2 ⟨hm, by simp [e4]⟩)
      · rw [if_neg hx]
        refine ih hm hlv ?_
        split at hn
        · exact hn
        · exact (List.nodup_cons.1 hn).2
/-- The ledger is as the document. -/
structure Rel (L : Led) (l es : List DRow) : Prop where
  now : ∀ k, mget k L.now = accD k l
  early : ∀ k, earlyF L k = earlyD k es
  live : (liveK l).Nodup
theorem rel_zero : Rel led0 [] [] := ⟨fun _ => rfl, fun _ => rfl, List.nodup_nil⟩
theorem restsF_eq {L : Led} {l es : List DRow} (h : Rel L l es) (k : Key) (q : Int) : restsF L.now k q = restsD k l q := by
  unfold restsF restsD
  rw [h.now k]
  cases accD k l <;> rfl
theorem liveB_key {k : Key} {r r' : DRow} (h1 : keyR r' = keyR r) (h2 : r'.old = r.old) : liveB k r' = liveB k r := by
  rw [Bool.eq_iff_iff, live_iff, live_iff, h1, h2]
/-- An account is changed on both sides. -/
theorem rel_mod {now : List (Key × Acc)} {l : List DRow} (h : ∀ k, mget k now = accD k l) (hl : (liveK l).Nodup) (k : Key) (g : Acc → Acc) (a : Acc) (ha : accD k l = some a) (f : DRow → DRow) (hf : ∀ r, keyR (f r) = keyR r ∧ (f r).old = r.old) (hg : ∀ r, (f r).a = g r.a) :
    (∀ j, mget j (mput k (g a) now) = accD j (modD k f l)) ∧ (liveK (modD k f l)).Nodup := by
  refine ⟨fun j => ?_, by rw [liveK_mod k f hf]; exact hl⟩
  rw [get_put]
  by_cases hj : j = k
  · subst hj
    rw [if_pos rfl, acc_mod_same j f (fun r => liveB_key (hf r).1 (hf r).2) g hg, ha]
    rfl
  · rw [if_neg hj, h j, acc_mod_other k j hj f (fun r hr => ?_)]
    rw [liveB_key (hf r).1 (hf r).2]
    cases e : liveB j r with
    | false => rfl
    | true => exact absurd (live_key hr e) hj
theorem rel_fill {now : List (Key × Acc)} {l : List DRow} (h : ∀ k, mget k now = accD k l) (hl : (liveK l).Nodup) (k : Key) (q : Int) (hr : (accD k l).isSome = true) :
    (∀ j, mget j (fillK now q k) = accD j (fillD k q l)) ∧ (liveK (fillD k q l)).Nodup := by
  obtain ⟨a, ha⟩ := Option.isSome_iff_exists.1 hr
  have hn : (mget k now).getD acc0 = a := by rw [h k, ha]; rfl
  unfold fillK
  rw [hn, fill_mod]
  exact rel_mod h hl k (fillA q) a ha (fillR q) (fun r => ⟨rfl, rfl⟩) (fun r => rfl)
theorem get_del {κ ν : Type} [DecidableEq κ] (k j : κ) : ∀ {l : List (κ × ν)}, (l.map (·.1)).Nodup → mget j (mdel k l) = if j = k then none else mget j l := by
  intro l
  induction l with
  | nil => intro _; simp [mdel, mget]
  | cons p l ih =>
    obtain ⟨a, u⟩ := p
    intro h
    rw [List.map_cons, List.nodup_cons] at h
    rw [mdel]
    by_cases hk : k = a
    · subst hk
      rw [if_pos rfl]
      by_cases hj : j = k
      · subst hj
        rw [if_pos rfl]
        cases e : mget j l with
        | none => rfl
        | some v => exact absurd (List.mem_map_of_mem (f := (·.1)) (mem_mget e)) h.1
      · rw [if_neg hj, mget, if_neg hj]
    · rw [if_neg hk, mget, mget, ih h.2]
      by_cases hj : j = a
      · subst hj
        rw [if_pos rfl, if_pos rfl, if_neg (fun e => hk e.symm)]
      · rw [if_neg hj, if_neg hj]
theorem keyB_iff {k : Key} {r : DRow} : keyB k r = true ↔ keyR r = k := by
  obtain ⟨k1, k2⟩ := k
  unfold keyB keyR
  simp only [Bool.and_eq_true, beq_iff_eq, Prod.mk.injEq]
theorem early_keep (k j : Key) (es : List DRow) : earlyD j (es.filter fun r => !keyB k r) = if j = k then 0 else earlyD j es := by
  induction es with
  | nil => simp [earlyD]
  | cons r es ih =>
    have hc : ∀ x : List DRow, earlyD j (r :: x) = (if keyB j r = true then r.a.filled else 0) + earlyD j x := fun x => by
      unfold earlyD
      rw [List.filter_cons]
      split <;> simp
    rw [List.filter_cons]
    by_cases hk : keyB k r = true
    · rw [hk, if_neg (by simp), ih, hc]
      by_cases hj : j = k
      · rw [if_pos hj, if_pos hj]
      · rw [if_neg hj, if_neg hj, if_neg (fun e => hj ((keyB_iff.1 e).symm.trans (keyB_iff.1 hk)))]
        omega
    · have hk' : keyB k r = false := by simpa using hk
      rw [hk', if_pos (by rfl), hc, ih, hc]
      by_cases hj : j = k
      · subst hj
        rw [if_pos rfl, if_pos rfl, if_neg hk]
        rfl
      · rw [if_neg hj, if_neg hj]
/-- The numbers stay small. -/
structure OkD (n : Nat) (l es : List DRow) : Prop where
  fine : FineL ((n : Int) * 4294967296) l
  early : FineE es
  l1 : l.length ≤ n
  l2 : es.length ≤ n
theorem okd_zero : OkD 0 [] [] := ⟨fun r h => (by cases h), fun r h => (by cases h), Nat.le_refl _, Nat.le_refl _⟩
theorem OkD.next {n : Nat} {l es : List DRow} (h : OkD n l es) : OkD (n + 1) l es :=
  ⟨fun r hr => (h.fine r hr).mono (by omega), h.early, by have := h.l1; omega, by have := h.l2; omega⟩
theorem rests_isSome {k : Key} {l : List DRow} {q : Int} (h : restsD k l q = true) : (accD k l).isSome = true := by
  obtain ⟨a, ha, _⟩ := rests_some h
  rw [ha]; rfl
section
variable {n : Nat} {L : Led} {l es : List DRow} {m : Msg}
theorem rel_trade (h : Rel L l es) (ho : OkD n l es) (hq : takenB m.qty = true) : Rel (tradeF L m).2 (tradeD l es m).1 (tradeD l es m).2 ∧ OkD (n + 1) (tradeD l es m).1 (tradeD l es m).2 := by
  have hq := taken_in hq
  have e1 := restsF_eq h (keyM m) m.qty
  have e2 := restsF_eq h (keyW m) m.qty
  have f1 : fillOK L.now m.qty [keyM m] = restsD (keyM m) l m.qty := by simp [fillOK, e1]
  have f2 : fillOK L.now m.qty [keyM m, keyW m] = (restsD (keyM m) l m.qty && restsD (keyW m) l m.qty) := by simp [fillOK, e1, e2]
  unfold tradeF tradeD
  rw [f1, f2]
  cases hr : restsD (keyM m) l m.qty with
  | false =>
    simp only [Bool.false_and, Bool.false_eq_true, if_false]
    have : ∀ p : Int × Led, p.2 = L → Rel p.2 l es := fun p e => e ▸ h
    refine ⟨?_, ho.next⟩
    split
    · exact h
    · split <;> exact h
  | true =>
    simp only [Bool.true_and, if_true]
    obtain ⟨h1, h2⟩ := rel_fill h.now h.live (keyM m) m.qty (rests_isSome hr)
    have hfi := fine_fill ho.fine hq hr
    by_cases hc : m.code = 1
    · rw [if_pos hc, if_pos hc]
      refine ⟨⟨h1, fun k => ?_, h2⟩, ⟨fun r hr' => (hfi r hr').mono (by omega), fun r hr' => ?_, ?_, ?_⟩⟩
      · unfold earlyF
        dsimp only
        rw [get_put]
        by_cases hk : k = keyW m
        · rw [if_pos hk, early_yes (keyB_iff.2 (by subst hk; rfl)), ← h.early k, ← hk]
          rfl
        · rw [if_neg hk, early_no (by
            cases e : keyB k (earlyR m) with
            | false => rfl
            | true => exact absurd (keyB_iff.1 e).symm hk)]
          exact h.early k
      · dsimp only at hr'
        rcases List.mem_append.1 hr' with hr' | hr'
        · exact ho.early r hr'
        · rw [List.mem_singleton] at hr'; subst hr'; exact hq
      · dsimp only; rw [fill_len]; have := ho.l1; omega
      · dsimp only; rw [List.length_append]; have := ho.l2; simp; omega
    · rw [if_neg hc, if_neg hc]
      by_cases hi : m.id = m.wth
      · have hk : keyM m = keyW m := by unfold keyM keyW; rw [hi]
        rw [if_pos hk, if_pos hi]
        exact ⟨h, ho.next⟩
      · have hk : ¬ keyM m = keyW m := fun e => hi (by unfold keyM keyW at e; exact (Prod.mk.inj e).2)
        rw [if_neg hk, if_neg hi]
        cases hr2 : restsD (keyW m) l m.qty with
        | false =>
          simp only [Bool.false_eq_true, if_false]
          exact ⟨h, ho.next⟩
        | true =>
          simp only [if_true]
          have hs2 : (accD (keyW m) (fillD (keyM m) m.qty l)).isSome = true := fill_some (rests_isSome hr2)
          obtain ⟨g1, g2⟩ := rel_fill h1 h2 (keyW m) m.qty hs2
          have hr3 : restsD (keyW m) (fillD (keyM m) m.qty l) m.qty = true := by
            obtain ⟨a, ha, hqa⟩ := rests_some hr2
            have : accD (keyW m) (fillD (keyM m) m.qty l) = some a := by
              rw [← h1 (keyW m), fillK, get_put, if_neg (fun e => hk e.symm), h.now, ha]
            unfold restsD
            rw [this]
            simpa using hqa
          refine ⟨⟨g1, h.early, g2⟩, ⟨?_, ho.early, ?_, by have := ho.l2; omega⟩⟩
          · -- each of the two rows grows once
            intro r hr'
            rw [fill_mod] at hr'
            rcases mem_mod hr' with hm | ⟨y, hy, hlv, rfl⟩
            · exact (hfi r hm).mono (by omega)
            · rw [fill_mod] at hy
              rcases mem_mod hy with hm | ⟨z, hz, hlz, rfl⟩
              · obtain ⟨a, ha, hqa⟩ := rests_some hr2
                have hya : y.a = a := by
                  have hd : accD (keyW m) l = some y.a := acc_live hm hlv h.live
                  rw [ha] at hd
                  injection hd with hd
                  exact hd.symm
                have := fill_in (ho.fine y hm) hq (by rw [hya]; exact hqa)
                exact this.mono (by omega)
              · exfalso
                have e1 := (live_iff.1 hlz).1
                have e2 := (live_iff.1 hlv).1
                exact hk (e1.symm.trans e2)
          · rw [fill_len, fill_len]; have := ho.l1; omega
theorem rel_done (h : Rel L l es) (ho : OkD n l es) (hq : takenB m.qty = true) : Rel (doneF L m).2 (doneD l m) es ∧ OkD (n + 1) (doneD l m) es := by
  have hq := taken_in hq
  unfold doneF doneD
  rw [h.now (keyM m)]
  cases ha : accD (keyM m) l with
  | none => exact ⟨h, ho.next⟩
  | some a =>
    have put : ∀ g : Acc → Acc, (∀ x, AccIn ((n : Int) * 4294967296) x → AccIn (((n : Nat) + 1 : Int) * 4294967296) (g x)) → Rel ⟨mput (keyM m) (g a) L.now, L.early, L.aside⟩ (modD (keyM m) (setA g) l) es ∧ OkD (n + 1) (modD (keyM m) (setA g) l) es := fun g hg => by
      obtain ⟨h1, h2⟩ := rel_mod h.now h.live (keyM m) g a ha (setA g) (fun r => ⟨rfl, rfl⟩) (fun r => rfl)
      refine ⟨⟨h1, h.early, h2⟩, ⟨fun r hr => ?_, ho.early, by rw [mod_len]; have := ho.l1; omega, by have := ho.l2; omega⟩⟩
      rcases mem_mod hr with hr | ⟨y, hy, _, rfl⟩
      · exact (ho.fine r hr).mono (by omega)
      · have := hg y.a (ho.fine y hy)
        exact this.mono (by omega)
    dsimp only
    by_cases c1 : owesA a = m.qty
    · rw [if_pos c1, if_pos c1]
      exact put (goneA m.qty) (fun x ⟨⟨h1, h2⟩, ⟨h3, h4⟩, ⟨h5, h6⟩, h7, h8⟩ => by
        refine ⟨⟨?_, ?_⟩, ⟨?_, ?_⟩, ⟨?_, ?_⟩, ?_, ?_⟩ <;> simp only [goneA] <;> omega)
    · rw [if_neg c1, if_neg c1]
      by_cases c2 : a.rest = m.qty
      · rw [if_pos c2, if_pos c2]
        exact put (fun a => goneA m.qty (restA a)) (fun x ⟨⟨h1, h2⟩, ⟨h3, h4⟩, ⟨h5, h6⟩, h7, h8⟩ => by
          refine ⟨⟨?_, ?_⟩, ⟨?_, ?_⟩, ⟨?_, ?_⟩, ?_, ?_⟩ <;> simp only [goneA, restA] <;> omega)
      · rw [if_neg c2, if_neg c2]
        exact ⟨h, ho.next⟩
theorem busy_iff (a : Acc) : busyA a = true ↔ (a.rest ≠ 0 ∨ owesA a ≠ 0) := by
  unfold busyA
  simp
theorem rel_ack (h : Rel L l es) (ho : OkD n l es) (hn2 : (L.early.map (·.1)).Nodup) (hq : takenB m.qty = true) (hw : takenB m.wth = true) : Rel (ackF L m).2 (ackD l es m).1 (ackD l es m).2 ∧ OkD (n + 1) (ackD l es m).1 (ackD l es m).2 := by
  have hq := taken_in hq
  have hw := taken_in hw
  have hc : ((mget (keyM m) L.now).isSome = true ∧ ((oldF L (keyM m)).rest ≠ 0 ∨ owesA (oldF L (keyM m)) ≠ 0)) ↔ ((accD (keyM m) l).map busyA).getD false = true := by
    unfold oldF
    rw [h.now (keyM m)]
    cases accD (keyM m) l with
    | none => simp
    | some a => simp [busy_iff]
  unfold ackF ackD
  by_cases c1 : ((accD (keyM m) l).map busyA).getD false = true
  · rw [if_pos (hc.2 c1), if_pos c1]
    exact ⟨h, ho.next⟩
  · rw [if_neg (fun e => c1 (hc.1 e)), if_neg c1, h.early (keyM m)]
    by_cases c2 : m.wth < earlyD (keyM m) es + m.qty
    · rw [if_pos c2, if_pos c2]
      exact ⟨h, ho.next⟩
    · rw [if_neg c2, if_neg c2, old_mod]
      have hbusy : (liveK (modD (keyM m) oldR l)) = (liveK l).erase (keyM m) := liveK_old _ l
      have hno : accD (keyM m) (modD (keyM m) oldR l) = none := acc_none_iff.2 (by rw [hbusy]; exact fun e => h.live.not_mem_erase e)
      have hei := early_in (k := keyM m) ho.early
      refine ⟨⟨fun k => ?_, fun k => ?_, ?_⟩, ⟨fun r hr => ?_, fun r hr => ho.early r (List.mem_filter.1 hr).1, ?_, ?_⟩⟩
      · dsimp only
        rw [get_put, acc_snoc]
        by_cases hk : k = keyM m
        · rw [if_pos hk, hk, hno, if_pos (show liveB (keyM m) (ackR m (earlyD (keyM m) es)) = true from live_iff.2 ⟨rfl, rfl⟩)]
          rfl
        · rw [if_neg hk, if_neg (fun e => hk (live_iff.1 e).1.symm), h.now k, acc_mod_other (keyM m) k hk oldR (fun r hr => by
            cases e : liveB k (oldR r) with
            | false => rfl
            | true => exact absurd (live_iff.1 e).2 (by simp [oldR]))]
          cases accD k l <;> rfl
      · unfold earlyF
        dsimp only
        rw [get_del _ _ hn2, early_keep]
        by_cases hk : k = keyM m
        · rw [if_pos hk, if_pos hk]; rfl
        · rw [if_neg hk, if_neg hk]; exact h.early k
      · dsimp only
        rw [liveK_snoc, hbusy, if_neg (by simp [ackR]), List.nodup_append]
        refine ⟨h.live.erase _, List.nodup_cons.2 ⟨by simp, List.nodup_nil⟩, fun a ha b hb e => ?_⟩
        rw [List.mem_singleton] at hb
        subst hb
        have e2 : a = keyM m := e
        rw [e2] at ha
        exact h.live.not_mem_erase ha
      · dsimp only at hr
        rcases List.mem_append.1 hr with hr | hr
        · rcases mem_mod hr with hr | ⟨y, hy, _, rfl⟩
          · exact (ho.fine r hr).mono (by omega)
          · exact (ho.fine y hy).mono (by omega)
        · rw [List.mem_singleton] at hr
          subst hr
          have := ho.l2
          refine ⟨⟨hw.1, ?_⟩, ⟨hei.1, ?_⟩, ⟨Int.le_refl _, ?_⟩, hq.1, ?_⟩ <;> simp only [ackR] <;> omega
      · dsimp only; rw [List.length_append, mod_len]; have := ho.l1; simp; omega
      · dsimp only; have := List.length_filter_le (fun r => !keyB (keyM m) r) es; have := ho.l2; omega
theorem rel_put (h : Rel L l es) (ho : OkD n l es) (hn2 : (L.early.map (·.1)).Nodup) (m : Msg) : Rel (putF L m).2 (rputD l es m).1 (rputD l es m).2 ∧ OkD (n + 1) (rputD l es m).1 (rputD l es m).2 := by
  unfold putF rputD
  by_cases k3 : m.kind = 3
  · rw [if_pos k3, if_pos k3]
    by_cases hq : takenB m.qty = true
    · rw [if_pos hq, if_pos hq]; exact rel_trade h ho hq
    · rw [if_neg hq, if_neg hq]; exact ⟨h, ho.next⟩
  rw [if_neg k3, if_neg k3]
  by_cases k4 : m.kind = 4
  · rw [if_pos k4, if_pos k4]
    by_cases hq : takenB m.qty = true
    · rw [if_pos hq, if_pos hq]; exact rel_done h ho hq
    · rw [if_neg hq, if_neg hq]; exact ⟨h, ho.next⟩
  rw [if_neg k4, if_neg k4]
  by_cases k1 : m.kind = 1
  · rw [if_pos k1, if_pos k1]
    by_cases hq : takenB m.qty = true ∧ takenB m.wth = true
    · rw [if_pos hq, if_pos hq]; exact rel_ack h ho hn2 hq.1 hq.2
    · rw [if_neg hq, if_neg hq]; exact ⟨h, ho.next⟩
  rw [if_neg k1, if_neg k1]
  exact ⟨h, ho.next⟩
/-- The rows that count, as a map's entries. -/
def accs (l : List DRow) : List (Key × Acc) := (l.filter fun r => !r.old).map fun r => (keyR r, r.a)
theorem accs_cons (r : DRow) (l : List DRow) : accs (r :: l) = if r.old = true then accs l else (keyR r, r.a) :: accs l := by
  unfold accs
  rw [List.filter_cons]
  cases r.old <;> simp
theorem accs_keys (l : List DRow) : (accs l).map (·.1) = liveK l := by
  unfold accs liveK
  rw [List.map_map]
  rfl
theorem accs_get (k : Key) : ∀ l : List DRow, mget k (accs l) = accD k l := by
  intro l
  induction l with
  | nil => rfl
  | cons r l ih =>
    rw [accs_cons, acc_cons]
    cases ho : r.old with
    | true =>
      rw [if_pos rfl, if_neg (fun e => by have := (live_iff.1 e).2; rw [ho] at this; cases this), ih]
    | false =>
      rw [if_neg (by simp), mget]
      by_cases hk : k = keyR r
      · rw [if_pos hk, if_pos (live_iff.2 ⟨hk.symm, ho⟩)]
      · rw [if_neg hk, if_neg (fun e => hk (live_iff.1 e).1.symm), ih]
theorem mem_get {κ ν : Type} [DecidableEq κ] {k : κ} {v : ν} : ∀ {l : List (κ × ν)}, (l.map (·.1)).Nodup → (k, v) ∈ l → mget k l = some v := by
  intro l
  induction l with
  | nil => intro _ h; cases h
  | cons p l ih =>
    obtain ⟨a, u⟩ := p
    intro hn h
    rw [List.map_cons, List.nodup_cons] at hn
    rw [mget]
    rcases List.mem_cons.1 h with hm | hm
    · injection hm with h1 h2
      rw [if_pos h1, h2]
    · have hk : k ∈ l.map (·.1) := List.mem_map_of_mem (f := (·.1)) hm
      rw [if_neg (fun (e : k = a) => hn.1 (e ▸ hk))]
      exact ih hn.2 hm
theorem same_get_perm {κ ν : Type} [DecidableEq κ] : ∀ {l k : List (κ × ν)}, (l.map (·.1)).Nodup → (k.map (·.1)).Nodup → (∀ j, mget j l = mget j k) → l.Perm k := by
  intro l
  induction l with
  | nil =>
    intro k _ hk h
    cases k with
    | nil => exact List.Perm.refl _
    | cons p k =>
      obtain ⟨a, u⟩ := p
      have := h a
      rw [mget, mget, if_pos rfl] at this
      cases this
  | cons p l ih =>
    obtain ⟨a, u⟩ := p
    intro k hl hk h
    rw [List.map_cons, List.nodup_cons] at hl
    have ha : mget a k = some u := by rw [← h a, mget, if_pos rfl]
    obtain ⟨k1, k2, rfl⟩ := List.append_of_mem (mem_mget ha)
    rw [List.map_append, List.map_cons] at hk
    have hp : (k1 ++ (a, u) :: k2).Perm ((a, u) :: (k1 ++ k2)) := List.perm_middle
    have hk2 : ((k1 ++ (a, u) :: k2).map (·.1)).Perm (((a, u) :: (k1 ++ k2)).map (·.1)) := hp.map _
    have hk3 : (((a, u) :: (k1 ++ k2)).map (·.1)).Nodup := hk2.nodup_iff.1 (by rw [List.map_append, List.map_cons]; exact hk)
    have hk4 := hk3
    rw [List.map_cons, List.nodup_cons] at hk4
    refine ((ih hl.2 hk4.2 fun j => ?_).cons (a, u)).trans hp.symm
    by_cases hj : j = a
    · subst hj
      have e1 : mget j l = none := by
        cases e : mget j l with
        | none => rfl
        | some v => exact absurd (List.mem_map_of_mem (f := (·.1)) (mem_mget e)) hl.1
      have e2 : mget j (k1 ++ k2) = none := by
        cases e : mget j (k1 ++ k2) with
        | none => rfl
        | some v => exact absurd (List.mem_map_of_mem (f := (·.1)) (mem_mget e)) hk4.1
      rw [e1, e2]
    · have h1 := h j
      rw [mget, if_neg hj] at h1
      rw [h1]
      cases e : mget j (k1 ++ (a, u) :: k2) with
      | none =>
        cases e2 : mget j (k1 ++ k2) with
        | none => rfl
        | some v =>
          have hm := hp.symm.mem_iff.1 (List.mem_cons_of_mem _ (mem_mget e2))
          rw [mem_get (by rw [List.map_append, List.map_cons]; exact hk) hm] at e
          cases e
      | some v =>
        have hm := hp.mem_iff.1 (mem_mget e)
        rcases List.mem_cons.1 hm with hm | hm
        · injection hm with hm _; exact absurd hm hj
        · rw [mem_get hk4.2 hm]
theorem ids_accs (sym : Int) (l : List DRow) : idsL sym (accs l) = (l.filter (openB sym)).map (·.id) := by
  induction l with
  | nil => rfl
  | cons r l ih =>
    rw [accs_cons, List.filter_cons]
    cases ho : r.old with
    | true =>
      have : openB sym r = false := by simp [openB, ho]
      rw [if_pos rfl, this, ih]
      simp
    | false =>
      rw [if_neg (by simp)]
      have e : openB sym r = restS sym (keyR r, r.a) := by simp [openB, restS, keyR, ho]
      unfold idsL at ih ⊢
      rw [List.filter_cons, e]
      cases restS sym (keyR r, r.a)
      · simpa using ih
      · simp [ih, keyR]
/-- What both give. -/
theorem open_same (h : Rel L l es) (hn1 : (L.now.map (·.1)).Nodup) (sym : Int) : openF L sym = openD sym l := by
  rw [open_rising, openF]
  refine rising_perm ?_
  rw [← ids_accs]
  exact ids_perm (same_get_perm hn1 (by rw [accs_keys]; exact h.live) fun j => by rw [h.now j, accs_get])
end
end Go.Proofs.Ytmkcooamgojbpaa.Ledger
