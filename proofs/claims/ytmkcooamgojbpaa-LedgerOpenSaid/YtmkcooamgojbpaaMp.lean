/- Maps in memory, as lists of their entries in order. -/
import Derived.Test.YtmkcooamgojbpaaBlk
import Derived.Maps.RangeRun
namespace Go.Proofs.Ytmkcooamgojbpaa.Mp
open Go.RowKit Go.ChangeMaps Go.Proofs.Ytmkcooamgojbpaa.Kit Go.Proofs.Ytmkcooamgojbpaa.Blk
set_option linter.unusedVariables false

section
variable {P : Program} {κ ν : Type} [DecidableEq κ]

def findE (k : κ) : List κ → List MapEntry → Nat → Option (Nat × Value)
  | a :: ks, e :: es, i => if k = a then some (i, e.val) else findE k ks es (i + 1)
  | _, _, _ => none
/-- Keys that can be told apart. -/
structure KeyOK (P : Program) (K : TypeId) (ke : κ → Value) : Prop where
  check : ∀ (w : World) (em : Bool) (k : κ), (Instr.checkKey em 10000 K (ke k)).run P w = .ok () w
  find : ∀ (w : World) (k : κ) (es : List MapEntry) (ks : List κ), es.map (·.key) = ks.map ke → (Instr.findKey K (ke k) es).run P w = .ok (findE k ks es 0) w
  stays : ∀ (w : World) (k : κ), (Instr.keyThatStays (ke k) (ke k)).run P w = .ok (ke k) w

theorem asking (K : TypeId) (ke : κ → Value) (heq : ∀ (w : World) (a b : κ), (Op.equal K (ke a) (ke b)).run P w = .ok (decide (a = b)) w) (w : World) (k : κ) :
    ∀ (es : List MapEntry) (ks : List κ) (i : Nat), es.map (·.key) = ks.map ke → (Instr.findAsking K (ke k) es i).run P w = .ok (findE k ks es i) w := by
  intro es
  induction es with
  | nil => intro ks i h; cases ks <;> simp [Instr.findAsking, findE]
  | cons e es ih =>
    intro ks i h
    cases ks with
    | nil => simp at h
    | cons a ks =>
      simp only [List.map_cons, List.cons.injEq] at h
      obtain ⟨h1, h2⟩ := h
      by_cases hk : k = a
      · simp [Instr.findAsking, h1, heq, findE, hk]
      · simp [Instr.findAsking, h1, heq, findE, hk, ih ks (i + 1) h2]
/-- Keys whose comparison is asked of ==. -/
theorem keyOK_asked {K : TypeId} {d : TypeDesc} (ke : κ → Value) (hu : P.underlying K = some d) (hnow : ∀ a b : κ, Instr.sameNow d (ke a) (ke b) = none)
    (heq : ∀ (w : World) (a b : κ), (Op.equal K (ke a) (ke b)).run P w = .ok (decide (a = b)) w) (hc : ∀ (w : World) (em : Bool) (k : κ), (Instr.checkKey em 10000 K (ke k)).run P w = .ok () w)
    (hs : ∀ (w : World) (k : κ), (Instr.keyThatStays (ke k) (ke k)).run P w = .ok (ke k) w) : KeyOK P K ke where
  check := hc
  stays := hs
  find := fun w k es ks h => by
    cases es with
    | nil => cases ks <;> simp [Instr.findKey, run_underlying hu, Instr.findNow, findE]
    | cons e es =>
      cases ks with
      | nil => simp at h
      | cons a ks =>
        have h1 : e.key = ke a := by simp only [List.map_cons, List.cons.injEq] at h; exact h.1
        have := asking K ke heq w k (e :: es) (a :: ks) 0 h
        simp [Instr.findKey, run_underlying hu, Instr.findNow, h1, hnow, this]
/-- Keys that are compared at once. -/
theorem now {d : TypeDesc} (ke : κ → Value) (hnow : ∀ a b : κ, Instr.sameNow d (ke a) (ke b) = some (decide (a = b))) (k : κ) :
    ∀ (es : List MapEntry) (ks : List κ) (i : Nat), es.map (·.key) = ks.map ke → Instr.findNow d (ke k) es i = some (findE k ks es i) := by
  intro es
  induction es with
  | nil => intro ks i h; cases ks <;> simp [Instr.findNow, findE]
  | cons e es ih =>
    intro ks i h
    cases ks with
    | nil => simp at h
    | cons a ks =>
      simp only [List.map_cons, List.cons.injEq] at h
      obtain ⟨h1, h2⟩ := h
      by_cases hk : k = a
      · simp [Instr.findNow, h1, hnow, findE, hk]
      · simp [Instr.findNow, h1, hnow, findE, hk, ih ks (i + 1) h2]
theorem keyOK_now {K : TypeId} {d : TypeDesc} (ke : κ → Value) (hu : P.underlying K = some d) (hnow : ∀ a b : κ, Instr.sameNow d (ke a) (ke b) = some (decide (a = b)))
    (hc : ∀ (w : World) (em : Bool) (k : κ), (Instr.checkKey em 10000 K (ke k)).run P w = .ok () w) (hs : ∀ (w : World) (k : κ), (Instr.keyThatStays (ke k) (ke k)).run P w = .ok (ke k) w) : KeyOK P K ke where
  check := hc
  stays := hs
  find := fun w k es ks h => by simp [Instr.findKey, run_underlying hu, now ke hnow k es ks 0 h]

def mget (k : κ) : List (κ × ν) → Option ν
  | [] => none
  | (a, v) :: l => if k = a then some v else mget k l
def mput (k : κ) (v : ν) : List (κ × ν) → List (κ × ν)
  | [] => [(k, v)]
  | (a, u) :: l => if k = a then (a, v) :: l else (a, u) :: mput k v l
def mdel (k : κ) : List (κ × ν) → List (κ × ν)
  | [] => []
  | (a, u) :: l => if k = a then l else (a, u) :: mdel k l
def midx (k : κ) : List (κ × ν) → Nat
  | [] => 0
  | (a, _) :: l => if k = a then 0 else midx k l + 1
def pr (e : MapEntry) : Value × Value := (e.key, e.val)
def en (ke : κ → Value) (ve : ν → Value) (p : κ × ν) : Value × Value := (ke p.1, ve p.2)

theorem find_look (ke : κ → Value) (ve : ν → Value) (k : κ) : ∀ (l : List (κ × ν)) (es : List MapEntry) (i : Nat), es.map pr = l.map (en ke ve) → findE k (l.map (·.1)) es i = (mget k l).map fun v => (i + midx k l, ve v) := by
  intro l
  induction l with
  | nil => intro es i h; simp [findE, mget]
  | cons p l ih =>
    intro es i h
    obtain ⟨a, v⟩ := p
    cases es with
    | nil => simp at h
    | cons e es =>
      simp only [List.map_cons, List.cons.injEq] at h
      obtain ⟨h1, h2⟩ := h
      have hv : e.val = ve v := congrArg Prod.snd h1
      by_cases hk : k = a
      · simp [findE, mget, midx, hk, hv]
      · simp only [List.map_cons, findE, mget, midx, hk, if_false]
        rw [ih es (i + 1) h2]
        congr 1
        funext v
        congr 1
        omega
end

section
variable {P : Program} {κ ν : Type}
theorem keys_of {ke : κ → Value} {ve : ν → Value} {l : List (κ × ν)} {es : List MapEntry} (h : es.map pr = l.map (en ke ve)) : es.map (·.key) = (l.map (·.1)).map ke := by
  have := congrArg (List.map Prod.fst) h
  simpa [List.map_map, Function.comp_def, pr, en] using this

/-- Block b holds a map of just these entries, in this order. -/
def MapIs (w : World) (b : Nat) (ke : κ → Value) (ve : ν → Value) (l : List (κ × ν)) : Prop :=
  ∃ es clock, w.heap[b]? = some (.map es clock) ∧ es.toList.map pr = l.map (en ke ve) ∧ (es.toList.map (·.born)).Nodup ∧ ∀ x ∈ es.toList, x.born < clock
theorem MapIs.lt {w : World} {b : Nat} {ke : κ → Value} {ve : ν → Value} {l : List (κ × ν)} (h : MapIs w b ke ve l) : b < w.heap.size := by
  obtain ⟨es, clock, hb, _⟩ := h
  exact (Array.getElem?_eq_some_iff.1 hb).1
theorem MapIs.same {w w' : World} {b : Nat} {ke : κ → Value} {ve : ν → Value} {l : List (κ × ν)} (h : MapIs w b ke ve l) (hb : w'.heap[b]? = w.heap[b]?) : MapIs w' b ke ve l := by
  obtain ⟨es, clock, h1, h2⟩ := h
  exact ⟨es, clock, hb.trans h1, h2⟩
theorem MapIs.below {w w' : World} {b n : Nat} {ke : κ → Value} {ve : ν → Value} {l : List (κ × ν)} (h : MapIs w b ke ve l) (hb : Below n w w') (hn : b < n) : MapIs w' b ke ve l := h.same (hb.block b hn)
theorem MapIs.chg {w w' : World} {b n d : Nat} {ke : κ → Value} {ve : ν → Value} {l : List (κ × ν)} (h : MapIs w b ke ve l) (hc : Chg n d w w') (hn : b < n) (hd : b ≠ d) : MapIs w' b ke ve l := h.same (hc.block b hn hd)
theorem MapIs.old {w : World} {b : Nat} {ke : κ → Value} {ve : ν → Value} {l : List (κ × ν)} (h : MapIs w b ke ve l) (o : Obj) : MapIs (w.alloc o) b ke ve l := h.same (Below.heap_alloc w o b h.lt)
theorem MapIs.drew {w : World} {b : Nat} {ke : κ → Value} {ve : ν → Value} {l : List (κ × ν)} (h : MapIs w b ke ve l) : MapIs w.drew b ke ve l := h
theorem MapIs.apart {w : World} {b : Nat} {ke : κ → Value} {ve : ν → Value} {l : List (κ × ν)} (h : MapIs w b ke ve l) (a : Addr) (v : Value) (hne : a.block ≠ b) : MapIs (w.setCell a v) b ke ve l := h.same (Below.heap_setCell _ _ _ _ (fun e => hne e.symm))
theorem MapIs.not_blk {w : World} {b B : Nat} {cs : Array Value} {T : TypeId} {ke : κ → Value} {ve : ν → Value} {l : List (κ × ν)} (h : MapIs w b ke ve l) (hB : Blk w B cs T) : b ≠ B := by
  rintro rfl
  obtain ⟨es, clock, h1, _⟩ := h
  rw [show w.heap[b]? = _ from hB] at h1
  cases h1
theorem mapIs_new (w : World) (n : Nat) (hn : w.heap.size = n) (ke : κ → Value) (ve : ν → Value) : MapIs (w.alloc (.map #[] 0)) n ke ve [] := by
  subst hn; exact ⟨#[], 0, heap_alloc_new w _, rfl, by simp, by simp⟩

theorem chg_set (w : World) (b n : Nat) (o : Obj) : Chg n b w (setBlock w b o) :=
  ⟨rfl, rfl, rfl, by simp [setBlock], fun k hk hd => by simp only [setBlock, Array.getElem?_setIfInBounds]; rw [if_neg (fun e => hd e.symm)]⟩
theorem set_at (w : World) (b : Nat) (o : Obj) (h : b < w.heap.size) : (setBlock w b o).heap[b]? = some o := by
  simp [setBlock, h]
theorem run_set {w : World} {b : Nat} {es : Array MapEntry} {c : Nat} (hb : w.heap[b]? = some (.map es c)) (o' : Obj) : (setObj b o').run P w = .ok () (setBlock w b o') := by
  simp [setObj, Sem.run, hb, setBlock]

end

section
variable {P : Program} {κ ν : Type} [DecidableEq κ] {w : World} {b : Nat} {ke : κ → Value} {ve : ν → Value} {l : List (κ × ν)} {T K E : TypeId}
theorem run_look (h : MapIs w b ke ve l) (hK : KeyOK P K ke) (hT : P.underlying T = some (.map K E)) {z : Value} (hz : (zeroValue E).run P w = .ok z w) (k : κ) (ok : Bool) :
    (Instr.lookup T (.map (some b)) (ke k) ok).run P w = .ok (if ok then .tuple #[((mget k l).map ve).getD z, .bool (mget k l).isSome] else ((mget k l).map ve).getD z) w := by
  obtain ⟨es, clock, hb, hp, hn, hc⟩ := h
  have hf := hK.find w k es.toList (l.map (·.1)) (keys_of hp)
  rw [find_look ke ve k l es.toList 0 hp] at hf
  simp only [Instr.lookup, Sem.run_bind, run_underlying hT, getObj, Sem.run, hb, Result.andThen, hK.check, hf, Sem.run_pure]
  cases mget k l <;> cases ok <;> simp [hz]

theorem look_key {k : κ} {v : ν} : ∀ {l : List (κ × ν)} {es : List MapEntry}, es.map pr = l.map (en ke ve) → mget k l = some v → ∃ e, es[midx k l]? = some e ∧ e.key = ke k ∧ e.val = ve v := by
  intro l
  induction l with
  | nil => intro es _ h; simp [mget] at h
  | cons p l ih =>
    intro es h hl
    obtain ⟨a, u⟩ := p
    cases es with
    | nil => simp at h
    | cons e es =>
      simp only [List.map_cons, List.cons.injEq] at h
      obtain ⟨h1, h2⟩ := h
      by_cases hk : k = a
      · simp only [mget, hk, if_true, Option.some.injEq] at hl
        subst hl
        exact ⟨e, by simp [midx, hk], by rw [hk]; exact congrArg Prod.fst h1, congrArg Prod.snd h1⟩
      · simp only [mget, hk, if_false] at hl
        obtain ⟨e', h3, h4⟩ := ih h2 hl
        exact ⟨e', by simpa [midx, hk] using h3, h4⟩
theorem put_there {k : κ} {v u : ν} (f : MapEntry → MapEntry) (hf : ∀ e, pr (f e) = (ke k, ve v)) : ∀ {l : List (κ × ν)} {es : List MapEntry}, es.map pr = l.map (en ke ve) → mget k l = some u → (es.modify (midx k l) f).map pr = (mput k v l).map (en ke ve) := by
  intro l
  induction l with
  | nil => intro es _ h; simp [mget] at h
  | cons p l ih =>
    intro es h hl
    obtain ⟨a, x⟩ := p
    cases es with
    | nil => simp at h
    | cons e es =>
      simp only [List.map_cons, List.cons.injEq] at h
      obtain ⟨h1, h2⟩ := h
      by_cases hk : k = a
      · simp [midx, mput, hk, h2, hf, en]
      · simp only [mget, hk, if_false] at hl
        simp [midx, mput, hk, h1, ih h2 hl]
theorem put_new {k : κ} {v : ν} : ∀ {l : List (κ × ν)}, mget k l = none → mput k v l = l ++ [(k, v)] := by
  intro l
  induction l with
  | nil => intro _; rfl
  | cons p l ih =>
    intro h
    obtain ⟨a, x⟩ := p
    by_cases hk : k = a
    · simp [mget, hk] at h
    · simp only [mget, hk, if_false] at h
      simp [mput, hk, ih h]
theorem del_there {k : κ} : ∀ {l : List (κ × ν)} {es : List MapEntry}, es.map pr = l.map (en ke ve) → (es.eraseIdx (midx k l)).map pr = (mdel k l).map (en ke ve) := by
  intro l
  induction l with
  | nil => intro es h; simp at h; subst h; simp [midx, mdel]
  | cons p l ih =>
    intro es h
    obtain ⟨a, x⟩ := p
    cases es with
    | nil => simp at h
    | cons e es =>
      simp only [List.map_cons, List.cons.injEq] at h
      obtain ⟨h1, h2⟩ := h
      by_cases hk : k = a
      · simp [midx, mdel, hk, h2]
      · simp [midx, mdel, hk, h1, ih h2]
theorem del_none {k : κ} : ∀ {l : List (κ × ν)}, mget k l = none → mdel k l = l := by
  intro l
  induction l with
  | nil => intro _; rfl
  | cons p l ih =>
    intro h
    obtain ⟨a, x⟩ := p
    by_cases hk : k = a
    · simp [mget, hk] at h
    · simp only [mget, hk, if_false] at h
      simp [mdel, hk, ih h]
theorem idx_lt {k : κ} {v : ν} : ∀ {l : List (κ × ν)}, mget k l = some v → midx k l < l.length := by
  intro l
  induction l with
  | nil => intro h; simp [mget] at h
  | cons p l ih =>
    intro h
    obtain ⟨a, x⟩ := p
    by_cases hk : k = a
    · simp [midx, hk]
    · simp only [mget, hk, if_false] at h
      have := ih h
      simp [midx, hk, this]

theorem run_put (h : MapIs w b ke ve l) (hK : KeyOK P K ke) (hT : P.underlying T = some (.map K E)) (k : κ) (v : ν) :
    ∃ w', (Instr.mapUpdate T (.map (some b)) (ke k) (ve v)).run P w = .ok () w' ∧ MapIs w' b ke ve (mput k v l) ∧ Chg w.heap.size b w w' ∧ w'.heap.size = w.heap.size := by
  have hlt := h.lt
  obtain ⟨es, clock, hb, hp, hn, hc⟩ := h
  have hf := hK.find w k es.toList (l.map (·.1)) (keys_of hp)
  rw [find_look ke ve k l es.toList 0 hp] at hf
  cases hl : mget k l with
  | none =>
    rw [hl] at hf
    refine ⟨setBlock w b (.map (es.push { key := ke k, val := ve v, born := clock }) (clock + 1)), ?_, ?_, chg_set _ _ _ _, by simp [setBlock]⟩
    · simp only [Instr.mapUpdate, Sem.run_bind, run_underlying hT, getObj, Sem.run, hb, Result.andThen, hK.check, hf, Option.map_none]
      simp [run_set hb]
    · refine ⟨_, _, set_at _ _ _ hlt, ?_, ?_, ?_⟩
      · rw [put_new hl]; simp [hp, pr, en]
      · simp only [Array.toList_push, List.map_append, List.map_cons, List.map_nil]
        rw [List.nodup_append]
        refine ⟨hn, by simp, fun x hx y hy => ?_⟩
        obtain rfl := List.mem_singleton.1 hy
        obtain ⟨e, he, rfl⟩ := List.mem_map.1 hx
        have := hc e he
        omega
      · intro x hx
        rw [Array.toList_push] at hx
        rcases List.mem_append.1 hx with hx | hx
        · have := hc x hx; omega
        · obtain rfl := List.mem_singleton.1 hx
          simp
  | some u =>
    rw [hl] at hf
    obtain ⟨e, h1, h2, h3⟩ := look_key hp hl
    have h1' : es[midx k l]? = some e := by simpa using h1
    refine ⟨setBlock w b (.map (es.modify (midx k l) fun e => { e with key := ke k, val := ve v }) clock), ?_, ?_, chg_set _ _ _ _, by simp [setBlock]⟩
    · simp only [Instr.mapUpdate, Sem.run_bind, run_underlying hT, getObj, Sem.run, hb, Result.andThen, hK.check, hf, Option.map_some, Nat.zero_add, h1', Option.getD_some, h2, hK.stays]
      simp [run_set hb]
    · refine ⟨_, _, set_at _ _ _ hlt, ?_, ?_, ?_⟩
      · rw [Array.toList_modify]; exact put_there (ke := ke) (ve := ve) (k := k) (v := v) (u := u) (fun e : MapEntry => { e with key := ke k, val := ve v }) (fun e => rfl) hp hl
      · rw [Array.toList_modify]
        have : (es.toList.modify (midx k l) fun e => { e with key := ke k, val := ve v }).map (·.born) = es.toList.map (·.born) := by
          apply List.ext_getElem?
          intro j
          simp only [List.getElem?_map, List.getElem?_modify]
          cases es.toList[j]? <;> simp
          split <;> rfl
        rw [this]; exact hn
      · intro x hx
        rw [Array.toList_modify] at hx
        obtain ⟨j, hj, rfl⟩ := List.mem_iff_getElem.1 hx
        rw [List.getElem_modify]
        have hm := hc (es.toList[j]'(by simpa using hj)) (List.getElem_mem _)
        split <;> exact hm

theorem run_del (h : MapIs w b ke ve l) (hK : KeyOK P K ke) (hT : P.underlying T = some (.map K E)) (k : κ) (ats : Array TypeId) (ty : TypeId) (hat : ats[0]? = some T) :
    ∃ w', (Builtin.delete_ ats ty #[.map (some b), ke k]).run P w = .ok (.tuple #[]) w' ∧ MapIs w' b ke ve (mdel k l) ∧ Chg w.heap.size b w w' ∧ w'.heap.size = w.heap.size := by
  have hlt := h.lt
  obtain ⟨es, clock, hb, hp, hn, hc⟩ := h
  have hf := hK.find w k es.toList (l.map (·.1)) (keys_of hp)
  rw [find_look ke ve k l es.toList 0 hp] at hf
  cases hl : mget k l with
  | none =>
    rw [hl] at hf
    refine ⟨setBlock w b (.map es clock), ?_, ⟨_, _, set_at _ _ _ hlt, by rw [del_none hl]; exact hp, hn, hc⟩, chg_set _ _ _ _, by simp [setBlock]⟩
    simp [Builtin.delete_, hat, run_underlying hT, getObj, Sem.run, hb, hK.check, hf, run_set hb]
  | some u =>
    rw [hl] at hf
    have hi : midx k l < es.size := by
      have h1 := idx_lt hl
      have h2 := congrArg List.length hp
      simp at h2; omega
    refine ⟨setBlock w b (.map (es.eraseIdxIfInBounds (midx k l)) clock), ?_, ⟨_, _, set_at _ _ _ hlt, ?_, ?_, ?_⟩, chg_set _ _ _ _, by simp [setBlock]⟩
    · simp [Builtin.delete_, hat, run_underlying hT, getObj, Sem.run, hb, hK.check, hf, run_set hb]
    · rw [Array.eraseIdxIfInBounds, dif_pos hi, Array.toList_eraseIdx]; exact del_there hp
    · rw [Array.eraseIdxIfInBounds, dif_pos hi, Array.toList_eraseIdx]
      exact List.Nodup.sublist ((List.eraseIdx_sublist _ _).map _) hn
    · intro x hx
      rw [Array.eraseIdxIfInBounds, dif_pos hi, Array.toList_eraseIdx] at hx
      exact hc x ((List.eraseIdx_sublist _ _).mem hx)
end
end Go.Proofs.Ytmkcooamgojbpaa.Mp
