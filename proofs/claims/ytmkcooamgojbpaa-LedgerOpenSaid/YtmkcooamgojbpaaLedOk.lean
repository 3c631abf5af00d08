/- A ledger's numbers stay small: plain. -/
import Derived.Test.YtmkcooamgojbpaaLedTrade
namespace Go.Proofs.Ytmkcooamgojbpaa.Ledger
open Go.Proofs.Ytmkcooamgojbpaa.Mp Go.Proofs.Ytmkcooamgojbpaa.Msgs
set_option linter.unusedVariables false

section
variable {κ ν : Type} [DecidableEq κ]
theorem mem_mput {k : κ} {v : ν} {p : κ × ν} : ∀ {l : List (κ × ν)}, p ∈ mput k v l → p = (k, v) ∨ p ∈ l
  | [], h => by simp [mput] at h; exact .inl h
  | (a, u) :: l, h => by
    rw [mput] at h
    split at h
    · rename_i e
      rcases List.mem_cons.1 h with h | h
      · exact .inl (by rw [h, e])
      · exact .inr (List.mem_cons_of_mem _ h)
    · rcases List.mem_cons.1 h with h | h
      · exact .inr (by rw [h]; exact List.mem_cons_self)
      · rcases mem_mput h with h | h
        · exact .inl h
        · exact .inr (List.mem_cons_of_mem _ h)
theorem mem_mdel {k : κ} {p : κ × ν} : ∀ {l : List (κ × ν)}, p ∈ mdel k l → p ∈ l
  | [], h => h
  | (a, u) :: l, h => by
    rw [mdel] at h
    split at h
    · exact List.mem_cons_of_mem _ h
    · rcases List.mem_cons.1 h with h | h
      · rw [h]; exact List.mem_cons_self
      · exact List.mem_cons_of_mem _ (mem_mdel h)
theorem mem_mget {k : κ} {v : ν} : ∀ {l : List (κ × ν)}, mget k l = some v → (k, v) ∈ l
  | [], h => by cases h
  | (a, u) :: l, h => by
    rw [mget] at h
    split at h
    · rename_i e
      injection h with h
      rw [e, h]; exact List.mem_cons_self
    · exact List.mem_cons_of_mem _ (mem_mget h)
theorem keys_mput {k a : κ} {v : ν} : ∀ {l : List (κ × ν)}, a ∈ (mput k v l).map (·.1) → a = k ∨ a ∈ l.map (·.1) := fun h => by
  obtain ⟨p, hp, rfl⟩ := List.mem_map.1 h
  rcases mem_mput hp with rfl | hp
  · exact .inl rfl
  · exact .inr (List.mem_map_of_mem hp)
theorem nodup_mput {k : κ} {v : ν} : ∀ {l : List (κ × ν)}, (l.map (·.1)).Nodup → ((mput k v l).map (·.1)).Nodup
  | [], _ => by simp [mput]
  | (a, u) :: l, h => by
    rw [mput]
    rw [List.map_cons, List.nodup_cons] at h
    split
    · rw [List.map_cons, List.nodup_cons]; exact h
    · rename_i hne
      rw [List.map_cons, List.nodup_cons]
      refine ⟨fun hm => ?_, nodup_mput h.2⟩
      rcases keys_mput hm with e | hm
      · exact hne e.symm
      · exact h.1 hm
theorem nodup_mdel {k : κ} : ∀ {l : List (κ × ν)}, (l.map (·.1)).Nodup → ((mdel k l).map (·.1)).Nodup
  | [], h => h
  | (a, u) :: l, h => by
    rw [mdel]
    rw [List.map_cons, List.nodup_cons] at h
    split
    · exact h.2
    · rw [List.map_cons, List.nodup_cons]
      refine ⟨fun hm => ?_, nodup_mdel h.2⟩
      obtain ⟨p, hp, e⟩ := List.mem_map.1 hm
      exact h.1 (by rw [← e]; exact List.mem_map_of_mem (mem_mdel hp))
end
theorem AccIn.mono {a b : Int} {x : Acc} (h : AccIn a x) (hab : a ≤ b) : AccIn b x := ⟨⟨h.1.1, by have := h.1.2; omega⟩, ⟨h.2.1.1, by have := h.2.1.2; omega⟩, ⟨h.2.2.1.1, by have := h.2.2.1.2; omega⟩, h.2.2.2.1, by have := h.2.2.2.2; omega⟩
theorem acc0_in {a : Int} (h : 0 ≤ a) : AccIn a acc0 := ⟨⟨Int.le_refl _, h⟩, ⟨Int.le_refl _, h⟩, ⟨Int.le_refl _, h⟩, Int.le_refl _, h⟩
/-- Behind n messages. -/
structure OkL (n : Int) (L : Led) : Prop where
  now : ∀ p ∈ L.now, AccIn (n * 4294967296) p.2
  early : ∀ p ∈ L.early, 0 ≤ p.2 ∧ p.2 ≤ n * 4294967296
  aside : ∀ p ∈ L.aside, AccIn (n * 4398046511104) p.2
  nd1 : (L.now.map (·.1)).Nodup
  nd2 : (L.early.map (·.1)).Nodup
  n0 : 0 ≤ n
def led0 : Led := ⟨[], [], []⟩
theorem ok_zero : OkL 0 led0 := ⟨fun p h => (by cases h), fun p h => (by cases h), fun p h => (by cases h), List.nodup_nil, List.nodup_nil, Int.le_refl _⟩
section
variable {n : Int} {L : Led}
theorem OkL.acc (h : OkL n L) (k : Key) : AccIn (n * 4294967296) ((mget k L.now).getD acc0) := by
  have := h.n0
  cases e : mget k L.now with
  | none => exact acc0_in (by omega)
  | some a => exact h.now _ (mem_mget e)
theorem OkL.ear (h : OkL n L) (k : Key) : 0 ≤ earlyF L k ∧ earlyF L k ≤ n * 4294967296 := by
  have := h.n0
  unfold earlyF
  cases e : mget k L.early with
  | none => simp; omega
  | some a => exact h.early _ (mem_mget e)
theorem OkL.asd (h : OkL n L) (s : Int) : AccIn (n * 4398046511104) ((mget s L.aside).getD acc0) := by
  have := h.n0
  cases e : mget s L.aside with
  | none => exact acc0_in (by omega)
  | some a => exact h.aside _ (mem_mget e)
theorem OkL.next (h : OkL n L) : OkL (n + 1) L :=
  ⟨fun p hp => (h.now p hp).mono (by omega), fun p hp => ⟨(h.early p hp).1, by have := (h.early p hp).2; omega⟩, fun p hp => (h.aside p hp).mono (by omega), h.nd1, h.nd2, by have := h.n0; omega⟩
theorem put_in {b b' : Int} {l : List (Key × Acc)} (h : ∀ p ∈ l, AccIn b p.2) (hb : b ≤ b') {k : Key} {a : Acc} (ha : AccIn b' a) : ∀ p ∈ mput k a l, AccIn b' p.2 := fun p hp => by
  rcases mem_mput hp with rfl | hp
  · exact ha
  · exact (h p hp).mono hb
theorem taken_in {q : Int} (h : takenB q = true) : 0 ≤ q ∧ q ≤ 4294967296 := by
  unfold takenB at h
  simpa using h
theorem rests_in {now : List (Key × Acc)} {k : Key} {q : Int} (h : restsF now k q = true) : q ≤ ((mget k now).getD acc0).rest := by
  unfold restsF at h
  cases e : mget k now with
  | none => rw [e] at h; cases h
  | some a => rw [e] at h; simpa using h
theorem fill_in {b q : Int} {a : Acc} (h : AccIn b a) (hq : 0 ≤ q ∧ q ≤ 4294967296) (hr : q ≤ a.rest) : AccIn (b + 4294967296) (fillA q a) := by
  obtain ⟨⟨h1, h2⟩, ⟨h3, h4⟩, ⟨h5, h6⟩, h7, h8⟩ := h
  refine ⟨⟨?_, ?_⟩, ⟨?_, ?_⟩, ⟨?_, ?_⟩, ?_, ?_⟩ <;> simp only [fillA] <;> omega
theorem fillK_in {b q : Int} {now : List (Key × Acc)} {k : Key} (h : ∀ p ∈ now, AccIn b p.2) (hb : 0 ≤ b) (hq : 0 ≤ q ∧ q ≤ 4294967296) (hr : restsF now k q = true) : ∀ p ∈ fillK now q k, AccIn (b + 4294967296) p.2 := by
  have hr := rests_in hr
  refine put_in h (by omega) (fill_in ?_ hq hr)
  cases e : mget k now with
  | none => exact acc0_in hb
  | some a => exact h _ (mem_mget e)
theorem ok_trade (h : OkL n L) {m : Msg} (hq : takenB m.qty = true) : OkL (n + 1) (tradeF L m).2 := by
  have hq := taken_in hq
  have hn := h.n0
  unfold tradeF
  split
  · split
    · rename_i hf
      have hr : restsF L.now (keyM m) m.qty = true := by simpa [fillOK] using hf
      have h1 := fillK_in h.now (by omega) hq hr
      have he := h.ear (keyW m)
      refine ⟨fun p hp => (h1 p hp).mono (by omega), fun p hp => ?_, fun p hp => (h.aside p hp).mono (by omega), nodup_mput h.nd1, nodup_mput h.nd2, by omega⟩
      rcases mem_mput hp with rfl | hp
      · exact ⟨by show 0 ≤ earlyF L (keyW m) + m.qty; omega, by show earlyF L (keyW m) + m.qty ≤ _; omega⟩
      · have := h.early p hp; exact ⟨this.1, by omega⟩
    · exact h.next
  · split
    · exact h.next
    · rename_i hne
      split
      · rename_i hf
        have hf2 : restsF L.now (keyM m) m.qty = true ∧ restsF L.now (keyW m) m.qty = true := by simpa [fillOK] using hf
        have r1 := rests_in hf2.1
        have r2 := rests_in hf2.2
        have a1 := fill_in (h.acc (keyM m)) hq r1
        have a2 := fill_in (h.acc (keyW m)) hq r2
        have e : fillF L.now m.qty [keyM m, keyW m] = mput (keyW m) (fillA m.qty ((mget (keyW m) L.now).getD acc0)) (mput (keyM m) (fillA m.qty ((mget (keyM m) L.now).getD acc0)) L.now) := by
          show fillK (fillK L.now m.qty (keyM m)) m.qty (keyW m) = _
          unfold fillK
          rw [get_put, if_neg (fun e => hne e.symm)]
        refine ⟨fun p hp => ?_, fun p hp => ⟨(h.early p hp).1, by have := (h.early p hp).2; omega⟩, fun p hp => (h.aside p hp).mono (by omega), ?_, h.nd2, by omega⟩
        · dsimp only at hp
          rw [e] at hp
          exact (put_in (put_in h.now (by omega) (a1.mono (b := (n + 1) * 4294967296) (by omega))) (Int.le_refl _) (a2.mono (by omega))) p hp
        · show (List.map _ (fillF L.now m.qty [keyM m, keyW m])).Nodup
          rw [e]
          exact nodup_mput (nodup_mput h.nd1)
      · exact h.next
theorem ok_done (h : OkL n L) {m : Msg} (hq : takenB m.qty = true) : OkL (n + 1) (doneF L m).2 := by
  have hq := taken_in hq
  have hn := h.n0
  have put : ∀ a : Acc, AccIn (n * 4294967296) a → OkL (n + 1) ⟨mput (keyM m) (goneA m.qty a) L.now, L.early, L.aside⟩ := fun a ha => by
    obtain ⟨⟨h1, h2⟩, ⟨h3, h4⟩, ⟨h5, h6⟩, h7, h8⟩ := ha
    have hg : AccIn ((n + 1) * 4294967296) (goneA m.qty a) := by
      refine ⟨⟨?_, ?_⟩, ⟨?_, ?_⟩, ⟨?_, ?_⟩, ?_, ?_⟩ <;> simp only [goneA] <;> omega
    exact ⟨put_in h.now (by omega) hg, fun p hp => ⟨(h.early p hp).1, by have := (h.early p hp).2; show p.2 ≤ _; omega⟩, fun p hp => (h.aside p hp).mono (by omega), nodup_mput h.nd1, h.nd2, by omega⟩
  unfold doneF
  cases e : mget (keyM m) L.now with
  | none => exact h.next
  | some a =>
    have ha := h.now _ (mem_mget e)
    dsimp only at ha ⊢
    split
    · exact put a ha
    · split
      · exact put (restA a) ⟨ha.1, ha.2.1, ha.2.2.1, Int.le_refl _, by show (0 : Int) ≤ _; omega⟩
      · exact h.next
theorem ok_ack (h : OkL n L) (hn2 : n ≤ 1000) {m : Msg} (hq : takenB m.qty = true) (hw : takenB m.wth = true) : OkL (n + 1) (ackF L m).2 := by
  have hq := taken_in hq
  have hw := taken_in hw
  have hn := h.n0
  unfold ackF
  split
  · exact h.next
  · split
    · exact h.next
    · have he := h.ear (keyM m)
      have hs := h.asd m.sym
      have ho := h.acc (keyM m)
      refine ⟨put_in h.now (by omega) ⟨⟨hw.1, by show m.wth ≤ _; omega⟩, ⟨he.1, by show earlyF L (keyM m) ≤ _; omega⟩, ⟨Int.le_refl _, by show (0 : Int) ≤ _; omega⟩, hq.1, by show m.qty ≤ _; omega⟩,
        fun p hp => ?_, fun p hp => ?_, nodup_mput h.nd1, nodup_mdel h.nd2, by omega⟩
      · have := h.early p (mem_mdel hp); exact ⟨this.1, by omega⟩
      · rcases mem_mput hp with rfl | hp
        · obtain ⟨⟨h1, h2⟩, ⟨h3, h4⟩, ⟨h5, h6⟩, h7, h8⟩ := hs
          obtain ⟨⟨g1, g2⟩, ⟨g3, g4⟩, ⟨g5, g6⟩, g7, g8⟩ := ho
          refine ⟨⟨?_, ?_⟩, ⟨?_, ?_⟩, ⟨?_, ?_⟩, ?_, ?_⟩ <;> simp only [plusA, oldF] <;> omega
        · exact (h.aside p hp).mono (by omega)
theorem ok_put (h : OkL n L) (hn2 : n ≤ 1000) (m : Msg) : OkL (n + 1) (putF L m).2 := by
  unfold putF
  split
  · split
    · rename_i hq; exact ok_trade h hq
    · exact h.next
  · split
    · split
      · rename_i hq; exact ok_done h hq
      · exact h.next
    · split
      · split
        · rename_i hq; exact ok_ack h hn2 hq.1 hq.2
        · exact h.next
      · exact h.next
end
end Go.Proofs.Ytmkcooamgojbpaa.Ledger
