/- m[k] += v: the entry of a map, and the store into it. -/
import Derived.Test.YtmkcooamgojbpaaMpI
namespace Go.Proofs.Ytmkcooamgojbpaa.Mp
open Go.RowKit Go.ChangeMaps Go.Proofs.Ytmkcooamgojbpaa.Kit Go.Proofs.Ytmkcooamgojbpaa.Blk
set_option linter.unusedVariables false

theorem find_born {es : List MapEntry} (hn : (es.map (·.born)).Nodup) {i : Nat} (hi : i < es.length) : es.findIdx? (fun e => (e.born : Int) == (es[i].born : Int)) = some i := by
  rw [List.findIdx?_eq_some_iff_getElem]
  refine ⟨hi, by simp, fun j hj => ?_⟩
  have hne : es[j].born ≠ es[i].born := fun e => by
    have h1 := (List.nodup_iff_pairwise_ne.1 hn)
    rw [List.pairwise_iff_getElem] at h1
    exact h1 j i (by simp; omega) (by simpa using hi) hj (by simpa using e)
  simp
  omega
theorem mod_last (es : List MapEntry) (x : MapEntry) (f : MapEntry → MapEntry) {n : Nat} (hn : n = es.length) : (es ++ [x]).modify n f = es ++ [f x] := by
  subst hn
  induction es with
  | nil => rfl
  | cons e es ih => simp [ih]
theorem mod_mod (es : List MapEntry) (i : Nat) (f g : MapEntry → MapEntry) : (es.modify i f).modify i g = es.modify i fun e => g (f e) := by
  apply List.ext_getElem?
  intro j
  simp only [List.getElem?_modify]
  cases es[j]? <;> simp
  split <;> simp
theorem get_app {κ ν : Type} [DecidableEq κ] {k : κ} {z : ν} : ∀ {l : List (κ × ν)}, mget k l = none → mget k (l ++ [(k, z)]) = some z
  | [], _ => by simp [mget]
  | (a, u) :: l, h => by
    rw [mget] at h
    split at h
    · cases h
    · rename_i hne
      rw [List.cons_append, mget, if_neg hne]
      exact get_app h
theorem chg_set2 (w : World) (b n : Nat) (o o' : Obj) : Chg n b w (setBlock (setBlock w b o) b o') := (chg_set w b n o).trans (chg_set _ b n o')
section
variable {P : Program} {κ ν : Type} [DecidableEq κ] {w : World} {b : Nat} {ke : κ → Value} {ve : ν → Value} {l : List (κ × ν)} {T K E : TypeId}
/-- The store into an entry that is there. -/
theorem run_store {es : Array MapEntry} {clock : Nat} (hb : w.heap[b]? = some (.map es clock)) (hn : (es.toList.map (·.born)).Nodup) (i : Nat) (hi : i < es.size) (x : Value) :
    (Instr.entryStore T (.map (some b)) (.int .i64 (es[i].born : Int)) x).run P w = .ok () (setBlock w b (.map (es.modify i fun e => { e with val := x }) clock)) := by
  have hf : es.findIdx? (fun e => (e.born : Int) == (es[i].born : Int)) = some i := by
    have h1 := find_born hn (i := i) (by simpa using hi)
    obtain ⟨l⟩ := es
    rw [List.findIdx?_toArray]
    exact h1
  simp [Instr.entryStore, getObj, Sem.run, hb, Result.andThen, asInt, asIntOf, hf, run_set hb]
theorem born_modify {f : MapEntry → MapEntry} (es : List MapEntry) (i : Nat) (hf : ∀ e, (f e).born = e.born) : (es.modify i f).map (·.born) = es.map (·.born) := by
  apply List.ext_getElem?
  intro j
  simp only [List.getElem?_map, List.getElem?_modify]
  cases es[j]? <;> simp
  split <;> simp [hf]
theorem run_entry_store (h : MapIs w b ke ve l) (hK : KeyOK P K ke) (hT : P.underlying T = some (.map K E)) {z : ν} (hz : ∀ w, (zeroValue E).run P w = .ok (ve z) w) (k : κ) (v : ν) :
    ∃ (stamp : Int) (W W2 : World), (Instr.mapEntry T (.map (some b)) (ke k)).run P w = .ok (.tuple #[ve ((mget k l).getD z), .int .i64 stamp]) W ∧
      (Instr.entryStore T (.map (some b)) (.int .i64 stamp) (ve v)).run P W = .ok () W2 ∧ MapIs W2 b ke ve (mput k v l) ∧ Chg w.heap.size b w W ∧ Chg w.heap.size b w W2 ∧ W.heap.size = w.heap.size ∧ W2.heap.size = w.heap.size ∧ ∃ l', MapIs W b ke ve l' ∧ (mget k l').getD z = (mget k l).getD z := by
  have hlt := h.lt
  obtain ⟨es, clock, hb, hp, hn, hc⟩ := h
  have hf := hK.find w k es.toList (l.map (·.1)) (keys_of hp)
  rw [find_look ke ve k l es.toList 0 hp] at hf
  cases hl : mget k l with
  | none =>
    rw [hl] at hf
    generalize hes : es.push ({ key := ke k, val := ve z, born := clock } : MapEntry) = es1
    have h1 : (setBlock w b (.map es1 (clock + 1))).heap[b]? = some (.map es1 (clock + 1)) := set_at _ _ _ hlt
    have hn1 : (es1.toList.map (·.born)).Nodup := by
      rw [← hes]
      simp only [Array.toList_push, List.map_append, List.map_cons, List.map_nil]
      rw [List.nodup_append]
      refine ⟨hn, by simp, fun x hx y hy => ?_⟩
      obtain rfl := List.mem_singleton.1 hy
      obtain ⟨e, he, rfl⟩ := List.mem_map.1 hx
      have := hc e he
      omega
    have hs1 : es.size < es1.size := by rw [← hes]; simp
    have hb1 : es1[es.size].born = clock := by subst hes; simp
    have hrun := run_store (P := P) (T := T) h1 hn1 es.size hs1 (ve v)
    rw [hb1] at hrun
    refine ⟨(clock : Int), setBlock w b (.map es1 (clock + 1)), _, ?_, hrun, ⟨_, _, set_at _ _ _ (by simp [setBlock]; exact hlt), ?_, ?_, ?_⟩, chg_set _ _ _ _, chg_set2 _ _ _ _ _, by simp [setBlock], by simp [setBlock], l ++ [(k, z)], ⟨_, _, h1, ?_, hn1, ?_⟩, ?_⟩
    · simp only [Instr.mapEntry, Sem.run_bind, run_underlying hT, getObj, Sem.run, hb, Result.andThen, hK.check, hf, Option.map_none]
      simp [hz, run_set hb, goInt, hes]
    · rw [put_new hl, Array.toList_modify, ← hes, Array.toList_push, mod_last _ _ _ (by simp)]
      simp [hp, pr, en]
    · rw [Array.toList_modify, born_modify (f := fun e : MapEntry => { e with val := ve v }) _ _ (fun _ => rfl)]; exact hn1
    · intro x hx
      rw [Array.toList_modify, ← hes, Array.toList_push, mod_last _ _ _ (by simp)] at hx
      rcases List.mem_append.1 hx with hx | hx
      · have := hc x hx; omega
      · obtain rfl := List.mem_singleton.1 hx
        simp
    · rw [← hes, Array.toList_push]
      simp [hp, pr, en]
    · intro x hx
      rw [← hes, Array.toList_push] at hx
      rcases List.mem_append.1 hx with hx | hx
      · have := hc x hx; omega
      · obtain rfl := List.mem_singleton.1 hx
        simp
    · rw [get_app hl, Option.getD_some, Option.getD_none]
  | some u =>
    rw [hl] at hf
    obtain ⟨e, h1, h2, h3⟩ := look_key hp hl
    have h1' : es[midx k l]? = some e := by simpa using h1
    have hi : midx k l < es.size := (Array.getElem?_eq_some_iff.1 h1').1
    generalize hes : es.modify (midx k l) (fun e => { e with key := ke k }) = es1
    have hn1 : (es1.toList.map (·.born)).Nodup := by rw [← hes, Array.toList_modify, born_modify (f := fun e : MapEntry => { e with key := ke k }) _ _ (fun _ => rfl)]; exact hn
    have hb1 : (setBlock w b (.map es1 clock)).heap[b]? = some (.map es1 clock) := set_at _ _ _ hlt
    have hs1 : midx k l < es1.size := by rw [← hes]; simpa using hi
    have hbo : es1[midx k l].born = e.born := by
      have : es[midx k l] = e := by rw [Array.getElem?_eq_getElem hi] at h1'; exact Option.some.inj h1'
      subst hes
      simp [Array.getElem_modify, this]
    have hrun := run_store (P := P) (T := T) hb1 hn1 (midx k l) hs1 (ve v)
    rw [hbo] at hrun
    refine ⟨(e.born : Int), setBlock w b (.map es1 clock), _, ?_, hrun, ⟨_, _, set_at _ _ _ (by simp [setBlock]; exact hlt), ?_, ?_, ?_⟩, chg_set _ _ _ _, chg_set2 _ _ _ _ _, by simp [setBlock], by simp [setBlock], l, ⟨_, _, hb1, ?_, hn1, ?_⟩, by rw [hl]⟩
    · simp only [Instr.mapEntry, Sem.run_bind, run_underlying hT, getObj, Sem.run, hb, Result.andThen, hK.check, hf, Option.map_some, Nat.zero_add, h1', Option.getD_some, h2, hK.stays]
      simp [run_set hb, goInt, hes]
    · rw [Array.toList_modify, ← hes, Array.toList_modify, mod_mod]
      exact put_there (ke := ke) (ve := ve) (k := k) (v := v) (u := u) (fun e : MapEntry => { e with key := ke k, val := ve v }) (fun e => rfl) hp hl
    · rw [Array.toList_modify, born_modify (f := fun e : MapEntry => { e with val := ve v }) _ _ (fun _ => rfl)]; exact hn1
    · intro x hx
      rw [Array.toList_modify, ← hes, Array.toList_modify, mod_mod] at hx
      obtain ⟨j, hj, rfl⟩ := List.mem_iff_getElem.1 hx
      rw [List.getElem_modify]
      have hm := hc (es.toList[j]'(by simpa using hj)) (List.getElem_mem _)
      split <;> exact hm
    · rw [← hes, Array.toList_modify, ← hp]
      apply List.ext_getElem?
      intro j
      rw [List.getElem?_map, List.getElem?_map, List.getElem?_modify]
      by_cases hj : midx k l = j
      · subst hj
        rw [h1]
        simp [pr, h2]
      · cases es.toList[j]? <;> simp [hj]
    · intro x hx
      rw [← hes, Array.toList_modify] at hx
      obtain ⟨j, hj, rfl⟩ := List.mem_iff_getElem.1 hx
      rw [List.getElem_modify]
      have hm := hc (es.toList[j]'(by simpa using hj)) (List.getElem_mem _)
      split <;> exact hm
end
end Go.Proofs.Ytmkcooamgojbpaa.Mp
