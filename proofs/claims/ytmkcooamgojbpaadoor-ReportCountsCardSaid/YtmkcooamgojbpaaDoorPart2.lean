/- Parts of the proof: Kit, Blk, Mp, MpP, CntF, MpI, CntM. -/
import Derived.Test.YtmkcooamgojbpaaDoorProg
import Derived.WalkKit
import Derived.WalkLawsBesides
import Derived.WalkSpells
import Derived.Lib.Hide
import Derived.BigQuiet
import Derived.Deep.QuietTactic
import Derived.Deep.AppendLies
import Derived.KernelRfl
import Derived.Laws.EntriesVeiled
import Derived.Maps.RangeRun
import Derived.ChangeKeysEq

/- Plain lemmas on worlds and cells, used by all walks of this seat. -/
namespace Go.Proofs.YtmkcooamgojbpaaDoor.Kit
open Go.RowKit

theorem cell_new (w : World) (cs : Array Value) (T : TypeId) (n j : Nat) (v : Value) (hn : w.heap.size = n) (h : cs[j]? = some v) :
    (w.alloc (.cells cs T)).cell? ⟨n, j, none⟩ = some v := by
  subst hn
  simp only [World.cell?, heap_alloc_new]
  simpa using h
theorem cell_old (w : World) (o : Obj) (a : Addr) (h : a.block < w.heap.size) : (w.alloc o).cell? a = w.cell? a :=
  World.cell?_of_block (Below.heap_alloc w o a.block h)
theorem frozen_old (w : World) (o : Obj) (a : Addr) (h : a.block < w.heap.size) : (w.alloc o).frozen? a = w.frozen? a :=
  World.frozen?_of_block (Below.heap_alloc w o a.block h)

/-- What is known of the first blocks stays known. -/
theorem keeps {W w1 : World} (hb : Below W.heap.size W w1) : (∀ b o, b < W.heap.size → w1.cell? ⟨b, o, none⟩ = W.cell? ⟨b, o, none⟩) ∧ (∀ b o, b < W.heap.size → w1.frozen? ⟨b, o, none⟩ = W.frozen? ⟨b, o, none⟩) :=
  ⟨fun b o h => hb.cell (p := ⟨b, o, none⟩) h, fun b o h => hb.frozen (p := ⟨b, o, none⟩) h⟩

/-- Numbers in a row of cells. -/
def Nums (w : World) (a : Option Addr) (l : List Int) : Prop :=
  ∀ i, (h : i < l.length) → ∃ b off, a = some ⟨b, off, none⟩ ∧ b < w.heap.size ∧ w.cell? ⟨b, off + i, none⟩ = some (.int .i64 l[i])

theorem Nums.below {w w' : World} {a : Option Addr} {l : List Int} (h : Nums w a l) (hb : Below w.heap.size w w') : Nums w' a l := by
  intro i hi
  obtain ⟨b, off, ha, hl, hc⟩ := h i hi
  exact ⟨b, off, ha, Nat.lt_of_lt_of_le hl hb.size, by rw [hb.cell (p := ⟨b, _, none⟩) hl]; exact hc⟩

theorem nums_new (w : World) (cs : Array Value) (T n : Nat) (l : List Int) (hn : w.heap.size = n) (hcs : cs = (l.map (Value.int .i64)).toArray) :
    Nums (w.alloc (.cells cs T)) (some ⟨n, 0, none⟩) l := by
  intro i hi
  refine ⟨n, 0, rfl, by simp [hn], ?_⟩
  rw [Nat.zero_add]
  exact cell_new _ _ _ _ _ _ hn (by subst hcs; simp [hi])

theorem callFunc_enter {P : Program} {f : FuncId} {fn : Func} (hf : P.funcs[f]? = some fn) (hn : (fn.name == "runtime.NumGoroutine") = false) (hb : fn.body.isNone = false) (args : Array Value) (w : World) :
    (callFunc f args).run P w = .ok (.enter f args) w := by
  rw [beq_eq_false_iff_ne] at hn
  have hb' : fn.body ≠ none := fun h => by simp [h] at hb
  simp [callFunc, hf, hn, hb']

theorem ret_int {k : IntKind} {a b : Int} (h : a = b) : Ending.returned (.int k a) = .returned (.int k b) := by rw [h]
theorem ret_bool {a b : Bool} (h : a = b) : Ending.returned (.bool a) = .returned (.bool b) := by rw [h]

def allIn (lo hi : Int) (l : List Int) : Bool := l.all fun n => !(decide (n < lo) || decide (hi < n))
end Go.Proofs.YtmkcooamgojbpaaDoor.Kit

/- Blocks that are known whole; and worlds in which one old block may have changed. -/
namespace Go.Proofs.YtmkcooamgojbpaaDoor.Blk
open Go.RowKit Go.Proofs.YtmkcooamgojbpaaDoor.Kit

/-- Block B holds just these cells, none of them frozen. -/
def Blk (w : World) (B : Nat) (cs : Array Value) (T : TypeId) : Prop := w.heap[B]? = some (.cells cs T (0, 0))

section
variable {w w' : World} {B : Nat} {cs : Array Value} {T : TypeId}
theorem Blk.cell (h : Blk w B cs T) (j : Nat) {v : Value} (hv : cs[j]? = some v) : w.cell? ⟨B, j, none⟩ = some v := by
  unfold Blk at h
  simp only [World.cell?, h]
  simpa using hv
theorem Blk.free (h : Blk w B cs T) (j : Nat) : w.frozen? ⟨B, j, none⟩ = false := by
  unfold Blk at h
  simp only [World.frozen?, h]
  simp
theorem Blk.lt (h : Blk w B cs T) : B < w.heap.size := (Array.getElem?_eq_some_iff.1 h).1
theorem Blk.new (w : World) (cs : Array Value) (T n : Nat) (hn : w.heap.size = n) : Blk (w.alloc (.cells cs T)) n cs T := by
  subst hn; exact heap_alloc_new w _
theorem Blk.old (h : Blk w B cs T) (o : Obj) : Blk (w.alloc o) B cs T := by
  unfold Blk; rw [Below.heap_alloc w o B h.lt]; exact h
theorem Blk.drew (h : Blk w B cs T) : Blk w.drew B cs T := h
theorem Blk.drewN (h : Blk w B cs T) (n : Nat) : Blk (w.drewN n) B cs T := h
theorem Blk.below {n : Nat} (h : Blk w B cs T) (hb : Below n w w') (hB : B < n) : Blk w' B cs T := by
  unfold Blk; rw [hb.block B hB]; exact h
theorem Blk.set (h : Blk w B cs T) (j : Nat) (v : Value) : Blk (w.setCell ⟨B, j, none⟩ v) B (cs.setIfInBounds j v) T := by
  have hl := h.lt
  unfold Blk at *
  simp only [World.setCell, Array.getElem?_modify]
  simp [h]
theorem Blk.apart (h : Blk w B cs T) (a : Addr) (v : Value) (hne : a.block ≠ B) : Blk (w.setCell a v) B cs T := by
  unfold Blk; rw [Below.heap_setCell _ _ _ _ (fun e => hne e.symm)]; exact h
end

theorem _root_.Go.RowKit.Below.drewN {n : Nat} {a w : World} (h : Below n a w) (k : Nat) : Below n a (w.drewN k) := ⟨h.os, h.tape, h.output, h.size, h.block⟩

/-- Below number n nothing has changed but block d. -/
structure Chg (n d : Nat) (w w' : World) : Prop where
  os : w'.os = w.os
  tape : w'.tape = w.tape
  output : w'.output = w.output
  size : w.heap.size ≤ w'.heap.size
  block : ∀ k, k < n → k ≠ d → w'.heap[k]? = w.heap[k]?

section
variable {n d : Nat} {a w w' : World}
theorem Chg.refl (n d : Nat) (w : World) : Chg n d w w := ⟨rfl, rfl, rfl, Nat.le_refl _, fun _ _ _ => rfl⟩
theorem Chg.trans {b c : World} (h : Chg n d a b) (k : Chg n d b c) : Chg n d a c :=
  ⟨k.os.trans h.os, k.tape.trans h.tape, k.output.trans h.output, Nat.le_trans h.size k.size, fun i hi hd => (k.block i hi hd).trans (h.block i hi hd)⟩
theorem Chg.mono {n' : Nat} (h : Chg n d w w') (hn : n' ≤ n) : Chg n' d w w' := ⟨h.os, h.tape, h.output, h.size, fun k hk => h.block k (Nat.lt_of_lt_of_le hk hn)⟩
theorem Chg.of (h : Below n w w') : Chg n d w w' := ⟨h.os, h.tape, h.output, h.size, fun k hk _ => h.block k hk⟩
theorem Chg.below (h : Chg n d w w') (hd : n ≤ d) : Below n w w' := ⟨h.os, h.tape, h.output, h.size, fun k hk => h.block k hk (by omega)⟩
theorem Chg.below' {m : Nat} (h : Chg n d w w') (hd : m ≤ d) (hm : m ≤ n) : Below m w w' := ⟨h.os, h.tape, h.output, h.size, fun k hk => h.block k (by omega) (by omega)⟩
theorem Chg.step {w2 : World} (h : Chg n d a w) (k : Below n w w2) : Chg n d a w2 := h.trans (Chg.of k)
theorem Chg.alloc (h : Chg n d a w) (hn : n ≤ w.heap.size) (o : Obj) : Chg n d a (w.alloc o) := h.step ((Below.refl _ _).alloc hn o)
theorem Chg.drew (h : Chg n d a w) : Chg n d a w.drew := h.step (Below.refl _ _).drew
theorem Chg.setCell (h : Chg n d a w) (p : Addr) (v : Value) (hp : p.block = d ∨ n ≤ p.block) : Chg n d a (w.setCell p v) :=
  h.trans ⟨rfl, rfl, rfl, by simp [World.setCell], fun k hk hd => Below.heap_setCell _ _ _ _ (by omega)⟩
theorem Chg.blk {B : Nat} {cs : Array Value} {T : TypeId} (h : Chg n d w w') (hB : B < n) (hd : B ≠ d) (hb : Blk w B cs T) : Blk w' B cs T := by
  unfold Blk; rw [h.block B hB hd]; exact hb
theorem Chg.cell (h : Chg n d w w') {p : Addr} (hp : p.block < n) (hd : p.block ≠ d) : w'.cell? p = w.cell? p := World.cell?_of_block (h.block p.block hp hd)
end
end Go.Proofs.YtmkcooamgojbpaaDoor.Blk

/- Maps in memory, as lists of their entries in order. -/
namespace Go.Proofs.YtmkcooamgojbpaaDoor.Mp
open Go.RowKit Go.ChangeMaps Go.Proofs.YtmkcooamgojbpaaDoor.Kit Go.Proofs.YtmkcooamgojbpaaDoor.Blk
set_option linter.unusedVariables false

section
variable {P : Program} {κ ν : Type} [DecidableEq κ]

def findE (k : κ) : List κ → List MapEntry → Nat → Option (Nat × Value)
  | a :: ks, e :: es, i => if k = a then some (i, e.val) else findE k ks es (i + 1)
  | _, _, _ => none
/-- Keys that can be told apart. -/
structure KeyOK (P : Program) (K : TypeId) (ke : κ → Value) : Prop where
  check : ∀ (w : World) (em : Bool) (k : κ), (Instr.checkKey em 10000 K (ke k)).run P w = .ok () w
  find : ∀ (w : World) (k : κ) (es : List MapEntry) (ks : List κ), es.map (·.key) = ks.map ke → (Instr.findKey K (ke k) es).run P w = .ok (findE k ks es 0) w
  stays : ∀ (w : World) (k : κ), (Instr.keyThatStays (ke k) (ke k)).run P w = .ok (ke k) w

theorem asking (K : TypeId) (ke : κ → Value) (heq : ∀ (w : World) (a b : κ), (Op.equal K (ke a) (ke b)).run P w = .ok (decide (a = b)) w) (w : World) (k : κ) :
    ∀ (es : List MapEntry) (ks : List κ) (i : Nat), es.map (·.key) = ks.map ke → (Instr.findAsking K (ke k) es i).run P w = .ok (findE k ks es i) w := by
  intro es
  induction es with
  | nil => intro ks i h; cases ks <;> simp [Instr.findAsking, findE]
  | cons e es ih =>
    intro ks i h
    cases ks with
    | nil => simp at h
    | cons a ks =>
      simp only [List.map_cons, List.cons.injEq] at h
      obtain ⟨h1, h2⟩ := h
      by_cases hk : k = a
      · simp [Instr.findAsking, h1, heq, findE, hk]
      · simp [Instr.findAsking, h1, heq, findE, hk, ih ks (i + 1) h2]
/-- Keys whose comparison is asked of ==. -/
theorem keyOK_asked {K : TypeId} {d : TypeDesc} (ke : κ → Value) (hu : P.underlying K = some d) (hnow : ∀ a b : κ, Instr.sameNow d (ke a) (ke b) = none)
    (heq : ∀ (w : World) (a b : κ), (Op.equal K (ke a) (ke b)).run P w = .ok (decide (a = b)) w) (hc : ∀ (w : World) (em : Bool) (k : κ), (Instr.checkKey em 10000 K (ke k)).run P w = .ok () w)
    (hs : ∀ (w : World) (k : κ), (Instr.keyThatStays (ke k) (ke k)).run P w = .ok (ke k) w) : KeyOK P K ke where
  check := hc
  stays := hs
  find := fun w k es ks h => by
    cases es with
    | nil => cases ks <;> simp [Instr.findKey, run_underlying hu, Instr.findNow, findE]
    | cons e es =>
      cases ks with
      | nil => simp at h
      | cons a ks =>
        have h1 : e.key = ke a := by simp only [List.map_cons, List.cons.injEq] at h; exact h.1
        have := asking K ke heq w k (e :: es) (a :: ks) 0 h
        simp [Instr.findKey, run_underlying hu, Instr.findNow, h1, hnow, this]
/-- Keys that are compared at once. -/
theorem now {d : TypeDesc} (ke : κ → Value) (hnow : ∀ a b : κ, Instr.sameNow d (ke a) (ke b) = some (decide (a = b))) (k : κ) :
    ∀ (es : List MapEntry) (ks : List κ) (i : Nat), es.map (·.key) = ks.map ke → Instr.findNow d (ke k) es i = some (findE k ks es i) := by
  intro es
  induction es with
  | nil => intro ks i h; cases ks <;> simp [Instr.findNow, findE]
  | cons e es ih =>
    intro ks i h
    cases ks with
    | nil => simp at h
    | cons a ks =>
      simp only [List.map_cons, List.cons.injEq] at h
      obtain ⟨h1, h2⟩ := h
      by_cases hk : k = a
      · simp [Instr.findNow, h1, hnow, findE, hk]
      · simp [Instr.findNow, h1, hnow, findE, hk, ih ks (i + 1) h2]
theorem keyOK_now {K : TypeId} {d : TypeDesc} (ke : κ → Value) (hu : P.underlying K = some d) (hnow : ∀ a b : κ, Instr.sameNow d (ke a) (ke b) = some (decide (a = b)))
    (hc : ∀ (w : World) (em : Bool) (k : κ), (Instr.checkKey em 10000 K (ke k)).run P w = .ok () w) (hs : ∀ (w : World) (k : κ), (Instr.keyThatStays (ke k) (ke k)).run P w = .ok (ke k) w) : KeyOK P K ke where
  check := hc
  stays := hs
  find := fun w k es ks h => by simp [Instr.findKey, run_underlying hu, now ke hnow k es ks 0 h]

def mget (k : κ) : List (κ × ν) → Option ν
  | [] => none
  | (a, v) :: l => if k = a then some v else mget k l
def mput (k : κ) (v : ν) : List (κ × ν) → List (κ × ν)
  | [] => [(k, v)]
  | (a, u) :: l => if k = a then (a, v) :: l else (a, u) :: mput k v l
def mdel (k : κ) : List (κ × ν) → List (κ × ν)
  | [] => []
  | (a, u) :: l => if k = a then l else (a, u) :: mdel k l
def midx (k : κ) : List (κ × ν) → Nat
  | [] => 0
  | (a, _) :: l => if k = a then 0 else midx k l + 1
def pr (e : MapEntry) : Value × Value := (e.key, e.val)
def en (ke : κ → Value) (ve : ν → Value) (p : κ × ν) : Value × Value := (ke p.1, ve p.2)

theorem find_look (ke : κ → Value) (ve : ν → Value) (k : κ) : ∀ (l : List (κ × ν)) (es : List MapEntry) (i : Nat), es.map pr = l.map (en ke ve) → findE k (l.map (·.1)) es i = (mget k l).map fun v => (i + midx k l, ve v) := by
  intro l
  induction l with
  | nil => intro es i h; simp [findE, mget]
  | cons p l ih =>
    intro es i h
    obtain ⟨a, v⟩ := p
    cases es with
    | nil => simp at h
    | cons e es =>
      simp only [List.map_cons, List.cons.injEq] at h
      obtain ⟨h1, h2⟩ := h
      have hv : e.val = ve v := congrArg Prod.snd h1
      by_cases hk : k = a
      · simp [findE, mget, midx, hk, hv]
      · simp only [List.map_cons, findE, mget, midx, hk, if_false]
        rw [ih es (i + 1) h2]
        congr 1
        funext v
        congr 1
        omega
end

section
variable {P : Program} {κ ν : Type}
theorem keys_of {ke : κ → Value} {ve : ν → Value} {l : List (κ × ν)} {es : List MapEntry} (h : es.map pr = l.map (en ke ve)) : es.map (·.key) = (l.map (·.1)).map ke := by
  have := congrArg (List.map Prod.fst) h
  simpa [List.map_map, Function.comp_def, pr, en] using this

/-- Block b holds a map of just these entries, in this order. -/
def MapIs (w : World) (b : Nat) (ke : κ → Value) (ve : ν → Value) (l : List (κ × ν)) : Prop :=
  ∃ es clock, w.heap[b]? = some (.map es clock) ∧ es.toList.map pr = l.map (en ke ve) ∧ (es.toList.map (·.born)).Nodup ∧ ∀ x ∈ es.toList, x.born < clock
theorem MapIs.lt {w : World} {b : Nat} {ke : κ → Value} {ve : ν → Value} {l : List (κ × ν)} (h : MapIs w b ke ve l) : b < w.heap.size := by
  obtain ⟨es, clock, hb, _⟩ := h
  exact (Array.getElem?_eq_some_iff.1 hb).1
theorem MapIs.same {w w' : World} {b : Nat} {ke : κ → Value} {ve : ν → Value} {l : List (κ × ν)} (h : MapIs w b ke ve l) (hb : w'.heap[b]? = w.heap[b]?) : MapIs w' b ke ve l := by
  obtain ⟨es, clock, h1, h2⟩ := h
  exact ⟨es, clock, hb.trans h1, h2⟩
theorem MapIs.below {w w' : World} {b n : Nat} {ke : κ → Value} {ve : ν → Value} {l : List (κ × ν)} (h : MapIs w b ke ve l) (hb : Below n w w') (hn : b < n) : MapIs w' b ke ve l := h.same (hb.block b hn)
theorem MapIs.chg {w w' : World} {b n d : Nat} {ke : κ → Value} {ve : ν → Value} {l : List (κ × ν)} (h : MapIs w b ke ve l) (hc : Chg n d w w') (hn : b < n) (hd : b ≠ d) : MapIs w' b ke ve l := h.same (hc.block b hn hd)
theorem MapIs.old {w : World} {b : Nat} {ke : κ → Value} {ve : ν → Value} {l : List (κ × ν)} (h : MapIs w b ke ve l) (o : Obj) : MapIs (w.alloc o) b ke ve l := h.same (Below.heap_alloc w o b h.lt)
theorem MapIs.drew {w : World} {b : Nat} {ke : κ → Value} {ve : ν → Value} {l : List (κ × ν)} (h : MapIs w b ke ve l) : MapIs w.drew b ke ve l := h
theorem MapIs.apart {w : World} {b : Nat} {ke : κ → Value} {ve : ν → Value} {l : List (κ × ν)} (h : MapIs w b ke ve l) (a : Addr) (v : Value) (hne : a.block ≠ b) : MapIs (w.setCell a v) b ke ve l := h.same (Below.heap_setCell _ _ _ _ (fun e => hne e.symm))
theorem MapIs.not_blk {w : World} {b B : Nat} {cs : Array Value} {T : TypeId} {ke : κ → Value} {ve : ν → Value} {l : List (κ × ν)} (h : MapIs w b ke ve l) (hB : Blk w B cs T) : b ≠ B := by
  rintro rfl
  obtain ⟨es, clock, h1, _⟩ := h
  rw [show w.heap[b]? = _ from hB] at h1
  cases h1
theorem mapIs_new (w : World) (n : Nat) (hn : w.heap.size = n) (ke : κ → Value) (ve : ν → Value) : MapIs (w.alloc (.map #[] 0)) n ke ve [] := by
  subst hn; exact ⟨#[], 0, heap_alloc_new w _, rfl, by simp, by simp⟩

theorem chg_set (w : World) (b n : Nat) (o : Obj) : Chg n b w (setBlock w b o) :=
  ⟨rfl, rfl, rfl, by simp [setBlock], fun k hk hd => by simp only [setBlock, Array.getElem?_setIfInBounds]; rw [if_neg (fun e => hd e.symm)]⟩
theorem set_at (w : World) (b : Nat) (o : Obj) (h : b < w.heap.size) : (setBlock w b o).heap[b]? = some o := by
  simp [setBlock, h]
theorem run_set {w : World} {b : Nat} {es : Array MapEntry} {c : Nat} (hb : w.heap[b]? = some (.map es c)) (o' : Obj) : (setObj b o').run P w = .ok () (setBlock w b o') := by
  simp [setObj, Sem.run, hb, setBlock]

end

section
variable {P : Program} {κ ν : Type} [DecidableEq κ] {w : World} {b : Nat} {ke : κ → Value} {ve : ν → Value} {l : List (κ × ν)} {T K E : TypeId}
theorem run_look (h : MapIs w b ke ve l) (hK : KeyOK P K ke) (hT : P.underlying T = some (.map K E)) {z : Value} (hz : (zeroValue E).run P w = .ok z w) (k : κ) (ok : Bool) :
    (Instr.lookup T (.map (some b)) (ke k) ok).run P w = .ok (if ok then .tuple #[((mget k l).map ve).getD z, .bool (mget k l).isSome] else ((mget k l).map ve).getD z) w := by
  obtain ⟨es, clock, hb, hp, hn, hc⟩ := h
  have hf := hK.find w k es.toList (l.map (·.1)) (keys_of hp)
  rw [find_look ke ve k l es.toList 0 hp] at hf
  simp only [Instr.lookup, Sem.run_bind, run_underlying hT, getObj, Sem.run, hb, Result.andThen, hK.check, hf, Sem.run_pure]
  cases mget k l <;> cases ok <;> simp [hz]

theorem look_key {k : κ} {v : ν} : ∀ {l : List (κ × ν)} {es : List MapEntry}, es.map pr = l.map (en ke ve) → mget k l = some v → ∃ e, es[midx k l]? = some e ∧ e.key = ke k ∧ e.val = ve v := by
  intro l
  induction l with
  | nil => intro es _ h; simp [mget] at h
  | cons p l ih =>
    intro es h hl
    obtain ⟨a, u⟩ := p
    cases es with
    | nil => simp at h
    | cons e es =>
      simp only [List.map_cons, List.cons.injEq] at h
      obtain ⟨h1, h2⟩ := h
      by_cases hk : k = a
      · simp only [mget, hk, if_true, Option.some.injEq] at hl
        subst hl
        exact ⟨e, by simp [midx, hk], by rw [hk]; exact congrArg Prod.fst h1, congrArg Prod.snd h1⟩
      · simp only [mget, hk, if_false] at hl
        obtain ⟨e', h3, h4⟩ := ih h2 hl
        exact ⟨e', by simpa [midx, hk] using h3, h4⟩
theorem put_there {k : κ} {v u : ν} (f : MapEntry → MapEntry) (hf : ∀ e, pr (f e) = (ke k, ve v)) : ∀ {l : List (κ × ν)} {es : List MapEntry}, es.map pr = l.map (en ke ve) → mget k l = some u → (es.modify (midx k l) f).map pr = (mput k v l).map (en ke ve) := by
  intro l
  induction l with
  | nil => intro es _ h; simp [mget] at h
  | cons p l ih =>
    intro es h hl
    obtain ⟨a, x⟩ := p
    cases es with
    | nil => simp at h
    | cons e es =>
      simp only [List.map_cons, List.cons.injEq] at h
      obtain ⟨h1, h2⟩ := h
      by_cases hk : k = a
      · simp [midx, mput, hk, h2, hf, en]
      · simp only [mget, hk, if_false] at hl
        simp [midx, mput, hk, h1, ih h2 hl]
theorem put_new {k : κ} {v : ν} : ∀ {l : List (κ × ν)}, mget k l = none → mput k v l = l ++ [(k, v)] := by
  intro l
  induction l with
  | nil => intro _; rfl
  | cons p l ih =>
    intro h
    obtain ⟨a, x⟩ := p
    by_cases hk : k = a
    · simp [mget, hk] at h
    · simp only [mget, hk, if_false] at h
      simp [mput, hk, ih h]
theorem del_there {k : κ} : ∀ {l : List (κ × ν)} {es : List MapEntry}, es.map pr = l.map (en ke ve) → (es.eraseIdx (midx k l)).map pr = (mdel k l).map (en ke ve) := by
  intro l
  induction l with
  | nil => intro es h; simp at h; subst h; simp [midx, mdel]
  | cons p l ih =>
    intro es h
    obtain ⟨a, x⟩ := p
    cases es with
    | nil => simp at h
    | cons e es =>
      simp only [List.map_cons, List.cons.injEq] at h
      obtain ⟨h1, h2⟩ := h
      by_cases hk : k = a
      · simp [midx, mdel, hk, h2]
      · simp [midx, mdel, hk, h1, ih h2]
theorem del_none {k : κ} : ∀ {l : List (κ × ν)}, mget k l = none → mdel k l = l := by
  intro l
  induction l with
  | nil => intro _; rfl
  | cons p l ih =>
    intro h
    obtain ⟨a, x⟩ := p
    by_cases hk : k = a
    · simp [mget, hk] at h
    · simp only [mget, hk, if_false] at h
      simp [mdel, hk, ih h]
theorem idx_lt {k : κ} {v : ν} : ∀ {l : List (κ × ν)}, mget k l = some v → midx k l < l.length := by
  intro l
  induction l with
  | nil => intro h; simp [mget] at h
  | cons p l ih =>
    intro h
    obtain ⟨a, x⟩ := p
    by_cases hk : k = a
    · simp [midx, hk]
    · simp only [mget, hk, if_false] at h
      have := ih h
      simp [midx, hk, this]

theorem run_put (h : MapIs w b ke ve l) (hK : KeyOK P K ke) (hT : P.underlying T = some (.map K E)) (k : κ) (v : ν) :
    ∃ w', (Instr.mapUpdate T (.map (some b)) (ke k) (ve v)).run P w = .ok () w' ∧ MapIs w' b ke ve (mput k v l) ∧ Chg w.heap.size b w w' ∧ w'.heap.size = w.heap.size := by
  have hlt := h.lt
  obtain ⟨es, clock, hb, hp, hn, hc⟩ := h
  have hf := hK.find w k es.toList (l.map (·.1)) (keys_of hp)
  rw [find_look ke ve k l es.toList 0 hp] at hf
  cases hl : mget k l with
  | none =>
    rw [hl] at hf
    refine ⟨setBlock w b (.map (es.push { key := ke k, val := ve v, born := clock }) (clock + 1)), ?_, ?_, chg_set _ _ _ _, by simp [setBlock]⟩
    · simp only [Instr.mapUpdate, Sem.run_bind, run_underlying hT, getObj, Sem.run, hb, Result.andThen, hK.check, hf, Option.map_none]
      simp [run_set hb]
    · refine ⟨_, _, set_at _ _ _ hlt, ?_, ?_, ?_⟩
      · rw [put_new hl]; simp [hp, pr, en]
      · simp only [Array.toList_push, List.map_append, List.map_cons, List.map_nil]
        rw [List.nodup_append]
        refine ⟨hn, by simp, fun x hx y hy => ?_⟩
        obtain rfl := List.mem_singleton.1 hy
        obtain ⟨e, he, rfl⟩ := List.mem_map.1 hx
        have := hc e he
        omega
      · intro x hx
        rw [Array.toList_push] at hx
        rcases List.mem_append.1 hx with hx | hx
        · have := hc x hx; omega
        · obtain rfl := List.mem_singleton.1 hx
          simp
  | some u =>
    rw [hl] at hf
    obtain ⟨e, h1, h2, h3⟩ := look_key hp hl
    have h1' : es[midx k l]? = some e := by simpa using h1
    refine ⟨setBlock w b (.map (es.modify (midx k l) fun e => { e with key := ke k, val := ve v }) clock), ?_, ?_, chg_set _ _ _ _, by simp [setBlock]⟩
    · simp only [Instr.mapUpdate, Sem.run_bind, run_underlying hT, getObj, Sem.run, hb, Result.andThen, hK.check, hf, Option.map_some, Nat.zero_add, h1', Option.getD_some, h2, hK.stays]
      simp [run_set hb]
    · refine ⟨_, _, set_at _ _ _ hlt, ?_, ?_, ?_⟩
      · rw [Array.toList_modify]; exact put_there (ke := ke) (ve := ve) (k := k) (v := v) (u := u) (fun e : MapEntry => { e with key := ke k, val := ve v }) (fun e => rfl) hp hl
      · rw [Array.toList_modify]
        have : (es.toList.modify (midx k l) fun e => { e with key := ke k, val := ve v }).map (·.born) = es.toList.map (·.born) := by
          apply List.ext_getElem?
          intro j
          simp only [List.getElem?_map, List.getElem?_modify]
          cases es.toList[j]? <;> simp
          split <;> rfl
        rw [this]; exact hn
      · intro x hx
        rw [Array.toList_modify] at hx
        obtain ⟨j, hj, rfl⟩ := List.mem_iff_getElem.1 hx
        rw [List.getElem_modify]
        have hm := hc (es.toList[j]'(by simpa using hj)) (List.getElem_mem _)
        split <;> exact hm

theorem run_del (h : MapIs w b ke ve l) (hK : KeyOK P K ke) (hT : P.underlying T = some (.map K E)) (k : κ) (ats : Array TypeId) (ty : TypeId) (hat : ats[0]? = some T) :
    ∃ w', (Builtin.delete_ ats ty #[.map (some b), ke k]).run P w = .ok (.tuple #[]) w' ∧ MapIs w' b ke ve (mdel k l) ∧ Chg w.heap.size b w w' ∧ w'.heap.size = w.heap.size := by
  have hlt := h.lt
  obtain ⟨es, clock, hb, hp, hn, hc⟩ := h
  have hf := hK.find w k es.toList (l.map (·.1)) (keys_of hp)
  rw [find_look ke ve k l es.toList 0 hp] at hf
  cases hl : mget k l with
  | none =>
    rw [hl] at hf
    refine ⟨setBlock w b (.map es clock), ?_, ⟨_, _, set_at _ _ _ hlt, by rw [del_none hl]; exact hp, hn, hc⟩, chg_set _ _ _ _, by simp [setBlock]⟩
    simp [Builtin.delete_, hat, run_underlying hT, getObj, Sem.run, hb, hK.check, hf, run_set hb]
  | some u =>
    rw [hl] at hf
    have hi : midx k l < es.size := by
      have h1 := idx_lt hl
      have h2 := congrArg List.length hp
      simp at h2; omega
    refine ⟨setBlock w b (.map (es.eraseIdxIfInBounds (midx k l)) clock), ?_, ⟨_, _, set_at _ _ _ hlt, ?_, ?_, ?_⟩, chg_set _ _ _ _, by simp [setBlock]⟩
    · simp [Builtin.delete_, hat, run_underlying hT, getObj, Sem.run, hb, hK.check, hf, run_set hb]
    · rw [Array.eraseIdxIfInBounds, dif_pos hi, Array.toList_eraseIdx]; exact del_there hp
    · rw [Array.eraseIdxIfInBounds, dif_pos hi, Array.toList_eraseIdx]
      exact List.Nodup.sublist ((List.eraseIdx_sublist _ _).map _) hn
    · intro x hx
      rw [Array.eraseIdxIfInBounds, dif_pos hi, Array.toList_eraseIdx] at hx
      exact hc x ((List.eraseIdx_sublist _ _).mem hx)
end
end Go.Proofs.YtmkcooamgojbpaaDoor.Mp

/- Maps as lists: what is got of them says what they hold; plain. -/
namespace Go.Proofs.YtmkcooamgojbpaaDoor.Mp
set_option linter.unusedVariables false
section
variable {κ ν : Type} [DecidableEq κ]
theorem in_get {k : κ} {v : ν} : ∀ {l : List (κ × ν)}, mget k l = some v → (k, v) ∈ l
  | [], h => by cases h
  | (a, u) :: l, h => by
    rw [mget] at h
    split at h
    · rename_i e
      injection h with h
      rw [e, h]; exact List.mem_cons_self
    · exact List.mem_cons_of_mem _ (in_get h)
theorem get_in {k : κ} {v : ν} : ∀ {l : List (κ × ν)}, (l.map (·.1)).Nodup → (k, v) ∈ l → mget k l = some v := by
  intro l
  induction l with
  | nil => intro _ h; cases h
  | cons p l ih =>
    obtain ⟨a, u⟩ := p
    intro hn h
    rw [List.map_cons, List.nodup_cons] at hn
    rw [mget]
    rcases List.mem_cons.1 h with hm | hm
    · injection hm with h1 h2
      rw [if_pos h1, h2]
    · have hk : k ∈ l.map (·.1) := List.mem_map_of_mem (f := (·.1)) hm
      rw [if_neg (fun (e : k = a) => hn.1 (e ▸ hk))]
      exact ih hn.2 hm
theorem get_same : ∀ {l k : List (κ × ν)}, (l.map (·.1)).Nodup → (k.map (·.1)).Nodup → (∀ j, mget j l = mget j k) → l.Perm k := by
  intro l
  induction l with
  | nil =>
    intro k _ hk h
    cases k with
    | nil => exact List.Perm.refl _
    | cons p k =>
      obtain ⟨a, u⟩ := p
      have := h a
      rw [mget, mget, if_pos rfl] at this
      cases this
  | cons p l ih =>
    obtain ⟨a, u⟩ := p
    intro k hl hk h
    rw [List.map_cons, List.nodup_cons] at hl
    have ha : mget a k = some u := by rw [← h a, mget, if_pos rfl]
    obtain ⟨k1, k2, rfl⟩ := List.append_of_mem (in_get ha)
    rw [List.map_append, List.map_cons] at hk
    have hp : (k1 ++ (a, u) :: k2).Perm ((a, u) :: (k1 ++ k2)) := List.perm_middle
    have hk2 : ((k1 ++ (a, u) :: k2).map (·.1)).Perm (((a, u) :: (k1 ++ k2)).map (·.1)) := hp.map _
    have hk3 : (((a, u) :: (k1 ++ k2)).map (·.1)).Nodup := hk2.nodup_iff.1 (by rw [List.map_append, List.map_cons]; exact hk)
    have hk4 := hk3
    rw [List.map_cons, List.nodup_cons] at hk4
    refine ((ih hl.2 hk4.2 fun j => ?_).cons (a, u)).trans hp.symm
    by_cases hj : j = a
    · subst hj
      have e1 : mget j l = none := by
        cases e : mget j l with
        | none => rfl
        | some v => exact absurd (List.mem_map_of_mem (f := (·.1)) (in_get e)) hl.1
      have e2 : mget j (k1 ++ k2) = none := by
        cases e : mget j (k1 ++ k2) with
        | none => rfl
        | some v => exact absurd (List.mem_map_of_mem (f := (·.1)) (in_get e)) hk4.1
      rw [e1, e2]
    · have h1 := h j
      rw [mget, if_neg hj] at h1
      rw [h1]
      cases e : mget j (k1 ++ (a, u) :: k2) with
      | none =>
        cases e2 : mget j (k1 ++ k2) with
        | none => rfl
        | some v =>
          have hm := hp.symm.mem_iff.1 (List.mem_cons_of_mem _ (in_get e2))
          rw [get_in (by rw [List.map_append, List.map_cons]; exact hk) hm] at e
          cases e
      | some v =>
        have hm := hp.mem_iff.1 (in_get e)
        rcases List.mem_cons.1 hm with hm | hm
        · injection hm with hm _; exact absurd hm hj
        · rw [get_in hk4.2 hm]
theorem get_putP (k k' : κ) (v : ν) (l : List (κ × ν)) : mget k (mput k' v l) = if k = k' then some v else mget k l := by
  induction l with
  | nil => by_cases h : k = k' <;> simp [mput, mget, h]
  | cons p l ih =>
    obtain ⟨a, u⟩ := p
    by_cases h1 : k' = a
    · subst h1
      by_cases h : k = k' <;> simp [mput, mget, h]
    · by_cases h2 : k = a
      · have h3 : ¬ k = k' := fun e => h1 (e ▸ h2 ▸ rfl)
        subst h2
        simp [mput, mget, h1, h3]
      · simp only [mput, h1, if_false, mget, h2, ih]
theorem put_keysP (k : κ) (v : ν) (l : List (κ × ν)) (h : (l.map (·.1)).Nodup) : ((mput k v l).map (·.1)).Nodup ∧ ∀ a, a ∈ (mput k v l).map (·.1) ↔ a = k ∨ a ∈ l.map (·.1) := by
  induction l with
  | nil => exact ⟨by simp [mput], fun a => by simp [mput]⟩
  | cons p l ih =>
    obtain ⟨b, u⟩ := p
    rw [List.map_cons, List.nodup_cons] at h
    by_cases hk : k = b
    · subst hk
      simp only [mput, if_true, List.map_cons, List.nodup_cons]
      exact ⟨h, fun a => by simp⟩
    · obtain ⟨i1, i2⟩ := ih h.2
      simp only [mput, hk, if_false, List.map_cons, List.nodup_cons]
      refine ⟨⟨fun hb => ?_, i1⟩, fun a => ?_⟩
      · rcases (i2 b).1 hb with e | hb
        · exact hk e.symm
        · exact h.1 hb
      · rw [List.mem_cons, List.mem_cons, i2]
        constructor
        · rintro (h | h | h)
          · exact .inr (.inl h)
          · exact .inl h
          · exact .inr (.inr h)
        · rintro (h | h | h)
          · exact .inr (.inl h)
          · exact .inl h
          · exact .inr (.inr h)
theorem put_lenP (k : κ) (v : ν) (l : List (κ × ν)) : (mput k v l).length ≤ l.length + 1 := by
  induction l with
  | nil => simp [mput]
  | cons p l ih =>
    obtain ⟨a, u⟩ := p
    by_cases h : k = a
    · simp [mput, h]
    · simp only [mput, h, if_false, List.length_cons]; omega
end
end Go.Proofs.YtmkcooamgojbpaaDoor.Mp

/- Counts of kinds and codes: plain. -/
namespace Go.Proofs.YtmkcooamgojbpaaDoor.Counts
open Go.RowKit Go.Proofs.YtmkcooamgojbpaaDoor.Mp
set_option linter.unusedVariables false

/-- A kind and a code. -/
abbrev KC := Int × Int
structure Cnt where
  kind : Int
  code : Int
  many : Int
  qty : Int
instance : Inhabited Cnt := ⟨⟨0, 0, 0, 0⟩⟩
def Cnt.cells (c : Cnt) : Array Value := #[.int .i64 c.kind, .int .i64 c.code, .int .i64 c.many, .int .i64 c.qty]
def Cnt.key (c : Cnt) : KC := (c.kind, c.code)
theorem cnt_size (c : Cnt) : c.cells.size = 4 := rfl
def cnt0 : Cnt := ⟨0, 0, 0, 0⟩
def cv (c : Cnt) : Value := .agg c.cells
/-- Is a key ahead of another one? -/
def klt (a b : KC) : Bool := decide (a.1 < b.1) || (decide (a.1 = b.1) && decide (a.2 < b.2))
theorem klt_irrefl (a : KC) : klt a a = false := by simp [klt]
theorem klt_trans {a b c : KC} (h1 : klt a b = true) (h2 : klt b c = true) : klt a c = true := by
  simp only [klt, Bool.or_eq_true, Bool.and_eq_true, decide_eq_true_eq] at *; omega
theorem klt_tri {a b : KC} (h1 : klt a b = false) (h2 : a ≠ b) : klt b a = true := by
  obtain ⟨a1, a2⟩ := a
  obtain ⟨b1, b2⟩ := b
  have h3 : ¬ (a1 = b1 ∧ a2 = b2) := fun e => h2 (by rw [e.1, e.2])
  simp only [klt, Bool.or_eq_false_iff, Bool.and_eq_false_iff, decide_eq_false_iff_not, Bool.or_eq_true, Bool.and_eq_true, decide_eq_true_eq] at *; omega
theorem klt_asymm {a b : KC} (h : klt a b = true) : klt b a = false := by
  cases e : klt b a with
  | false => rfl
  | true => have := klt_trans h e; rw [klt_irrefl] at this; cases this
/-- One more of a key. -/
def more (k : KC) (q : Int) (c : Cnt) : Cnt := ⟨k.1, k.2, c.many + 1, c.qty + q⟩
def addA (A : List (KC × Cnt)) (k : KC) (q : Int) : List (KC × Cnt) := mput k (more k q ((mget k A).getD cnt0)) A
def insC (k : KC) (q : Int) : List Cnt → List Cnt
  | [] => [more k q cnt0]
  | c :: S => if klt c.key k = true then c :: insC k q S else if c.key = k then more k q c :: S else more k q cnt0 :: c :: S
def findC (k : KC) (S : List Cnt) : Option Cnt := S.find? fun c => decide (c.key = k)
def SortedC (S : List Cnt) : Prop := S.Pairwise fun a b => klt a.key b.key = true
theorem find_cons (k : KC) (c : Cnt) (S : List Cnt) : findC k (c :: S) = if c.key = k then some c else findC k S := by
  unfold findC
  rw [List.find?_cons]
  by_cases h : c.key = k <;> simp [h]
theorem find_none {k : KC} {S : List Cnt} (h : ∀ c ∈ S, klt k c.key = true) : findC k S = none := by
  unfold findC
  rw [List.find?_eq_none]
  intro c hc
  have := h c hc
  simp only [decide_eq_true_eq]
  intro e
  rw [e, klt_irrefl] at this
  cases this
theorem more_key (k : KC) (q : Int) (c : Cnt) : (more k q c).key = k := rfl
theorem mem_ins {k : KC} {q : Int} {x : Cnt} : ∀ {S : List Cnt}, x ∈ insC k q S → x.key = k ∨ x ∈ S := by
  intro S
  induction S with
  | nil => intro h; simp [insC] at h; exact .inl (by rw [h]; rfl)
  | cons c S ih =>
    intro h
    rw [insC] at h
    split at h
    · rcases List.mem_cons.1 h with rfl | h
      · exact .inr List.mem_cons_self
      · rcases ih h with h | h
        · exact .inl h
        · exact .inr (List.mem_cons_of_mem _ h)
    · split at h
      · rcases List.mem_cons.1 h with rfl | h
        · exact .inl rfl
        · exact .inr (List.mem_cons_of_mem _ h)
      · rcases List.mem_cons.1 h with rfl | h
        · exact .inl rfl
        · exact .inr h
theorem sorted_ins {k : KC} {q : Int} : ∀ {S : List Cnt}, SortedC S → SortedC (insC k q S) := by
  intro S
  induction S with
  | nil => intro _; exact List.pairwise_singleton _ _
  | cons c S ih =>
    intro h
    have h' := List.pairwise_cons.1 h
    rw [insC]
    split
    · rename_i hc
      refine List.pairwise_cons.2 ⟨fun x hx => ?_, ih h'.2⟩
      rcases mem_ins hx with e | hx
      · rw [e]; exact hc
      · exact h'.1 x hx
    · rename_i hc
      split
      · rename_i e
        refine List.pairwise_cons.2 ⟨fun x hx => ?_, h'.2⟩
        rw [more_key, ← e]; exact h'.1 x hx
      · rename_i e
        have hk : klt k c.key = true := klt_tri (by simpa using hc) e
        refine List.pairwise_cons.2 ⟨fun x hx => ?_, h⟩
        rw [more_key]
        rcases List.mem_cons.1 hx with rfl | hx
        · exact hk
        · exact klt_trans hk (h'.1 x hx)
theorem find_ins {k j : KC} {q : Int} : ∀ {S : List Cnt}, SortedC S → findC j (insC k q S) = if j = k then some (more k q ((findC k S).getD cnt0)) else findC j S := by
  intro S
  induction S with
  | nil =>
    intro _
    rw [insC, find_cons, more_key]
    by_cases h : j = k
    · rw [if_pos h.symm, if_pos h]; rfl
    · rw [if_neg (fun e => h e.symm), if_neg h]
  | cons c S ih =>
    intro h
    have h' := List.pairwise_cons.1 h
    rw [insC]
    split
    · rename_i hc
      have hne : ¬ c.key = k := fun e => by rw [e, klt_irrefl] at hc; cases hc
      rw [find_cons, ih h'.2, find_cons, find_cons, if_neg hne]
      by_cases hj : j = k
      · rw [if_pos hj, if_pos hj, if_neg (fun e => hne (e.trans hj))]
      · rw [if_neg hj, if_neg hj]
    · rename_i hc
      split
      · rename_i e
        rw [find_cons, find_cons, find_cons, more_key, if_pos e]
        by_cases hj : j = k
        · rw [if_pos hj.symm, if_pos hj]; rfl
        · rw [if_neg (fun e => hj e.symm), if_neg hj, if_neg (fun e' => hj (e'.symm.trans e))]
      · rename_i e
        have hk : klt k c.key = true := klt_tri (by simpa using hc) e
        have hn : findC k (c :: S) = none := find_none (fun x hx => by
          rcases List.mem_cons.1 hx with rfl | hx
          · exact hk
          · exact klt_trans hk (h'.1 x hx))
        rw [find_cons, more_key, hn]
        by_cases hj : j = k
        · rw [if_pos hj.symm, if_pos hj]; rfl
        · rw [if_neg (fun e => hj e.symm), if_neg hj]
/-- The map, and the document's list. -/
structure RelC (A : List (KC × Cnt)) (S : List Cnt) : Prop where
  get : ∀ k, mget k A = findC k S
  nodup : (A.map (·.1)).Nodup
  sorted : SortedC S
theorem rel_nil : RelC [] [] := ⟨fun _ => rfl, List.nodup_nil, List.Pairwise.nil⟩
theorem rel_add {A : List (KC × Cnt)} {S : List Cnt} (h : RelC A S) (k : KC) (q : Int) : RelC (addA A k q) (insC k q S) :=
  ⟨fun j => by unfold addA; rw [get_putP, find_ins h.sorted, h.get k, h.get j], (put_keysP _ _ _ h.nodup).1, sorted_ins h.sorted⟩
theorem find_pairs (k : KC) (S : List Cnt) : mget k (S.map fun c => (c.key, c)) = findC k S := by
  induction S with
  | nil => rfl
  | cons c S ih =>
    rw [List.map_cons, mget, find_cons, ih]
    by_cases h : k = c.key
    · rw [if_pos h, if_pos h.symm]
    · rw [if_neg h, if_neg (fun e => h e.symm)]
theorem keys_nodup {S : List Cnt} (h : SortedC S) : (S.map Cnt.key).Nodup := by
  unfold List.Nodup
  rw [List.pairwise_map]
  refine h.imp fun {a b} hab e => ?_
  rw [e, klt_irrefl] at hab; cases hab
theorem rel_perm {A : List (KC × Cnt)} {S : List Cnt} (h : RelC A S) : (A.map (·.2)).Perm S := by
  have hp : A.Perm (S.map fun c => (c.key, c)) := get_same h.nodup (by rw [List.map_map]; exact keys_nodup h.sorted) (fun j => by rw [find_pairs, h.get])
  have := hp.map (·.2)
  rw [List.map_map] at this
  have e : S.map ((·.2) ∘ fun c : Cnt => (c.key, c)) = S := by
    have : ((·.2) ∘ fun c : Cnt => (c.key, c)) = (id : Cnt → Cnt) := rfl
    rw [this, List.map_id]
  rwa [e] at this
def clampC (c : Cnt) : Cnt := ⟨c.kind, c.code, c.many, max (min c.qty 4611686018427387904) 0⟩
theorem sorted_clamp {S : List Cnt} (h : SortedC S) : SortedC (S.map clampC) := by
  unfold SortedC
  rw [List.pairwise_map]
  exact h
/-- What is sorted of the same counts is the document's list. -/
theorem sorted_only {S T : List Cnt} (hS : SortedC S) (hp : T.Perm S) (hT : T.Pairwise fun a b => klt b.key a.key = false) : T = S := by
  refine hp.eq_of_pairwise (le := fun a b => klt b.key a.key = false) (fun a b ha hb h1 h2 => ?_) hT (hS.imp fun {a b} h => klt_asymm h)
  have hk : a.key = b.key := by
    by_cases e : b.key = a.key
    · exact e.symm
    · have := klt_tri h1 e
      rw [h2] at this; cases this
  have hn := keys_nodup hS
  have ha' := hp.mem_iff.1 ha
  clear hp hT ha hS h1 h2
  induction S with
  | nil => cases hb
  | cons c S ih =>
    rw [List.map_cons, List.nodup_cons] at hn
    rcases List.mem_cons.1 ha' with e1 | e1
    · rcases List.mem_cons.1 hb with e2 | e2
      · rw [e1, e2]
      · have h3 : b.key ∈ S.map Cnt.key := List.mem_map_of_mem e2
        rw [← hk, e1] at h3
        exact absurd h3 hn.1
    · rcases List.mem_cons.1 hb with e2 | e2
      · have h3 : a.key ∈ S.map Cnt.key := List.mem_map_of_mem e1
        rw [hk, e2] at h3
        exact absurd h3 hn.1
      · exact ih e2 hn.2 e1
theorem ins_len (k : KC) (q : Int) (S : List Cnt) : (insC k q S).length ≤ S.length + 1 := by
  induction S with
  | nil => simp [insC]
  | cons c S ih =>
    rw [insC]
    split
    · simp; exact ih
    · split <;> simp
/-- Bounds. -/
def BndC (n : Nat) (c : Cnt) : Prop := (0 ≤ c.many ∧ c.many ≤ n) ∧ -((n : Int) * 36028797018963968) ≤ c.qty ∧ c.qty ≤ (n : Int) * 36028797018963968
theorem bnd_zero (n : Nat) : BndC n cnt0 := ⟨⟨Int.le_refl _, by show (0 : Int) ≤ _; omega⟩, by show _ ≤ (0 : Int); omega, by show (0 : Int) ≤ _; omega⟩
theorem bnd_more {n : Nat} {c : Cnt} (h : BndC n c) {q : Int} (hq : -36028797018963968 ≤ q ∧ q ≤ 36028797018963968) (k : KC) : BndC (n + 1) (more k q c) := by
  obtain ⟨⟨h1, h2⟩, h3, h4⟩ := h
  refine ⟨⟨?_, ?_⟩, ?_, ?_⟩ <;> simp only [more] <;> omega
theorem bnd_next {n : Nat} {c : Cnt} (h : BndC n c) : BndC (n + 1) c := by
  obtain ⟨⟨h1, h2⟩, h3, h4⟩ := h
  refine ⟨⟨?_, ?_⟩, ?_, ?_⟩ <;> omega
theorem bnd_ins {n : Nat} {S : List Cnt} (h : ∀ c ∈ S, BndC n c) {q : Int} (hq : -36028797018963968 ≤ q ∧ q ≤ 36028797018963968) (k : KC) : ∀ c ∈ insC k q S, BndC (n + 1) c := by
  induction S with
  | nil => intro c hc; simp [insC] at hc; subst hc; exact bnd_more (bnd_zero n) hq k
  | cons x S ih =>
    intro c hc
    have hx := h x List.mem_cons_self
    have hS := fun c hc => h c (List.mem_cons_of_mem x hc)
    rw [insC] at hc
    split at hc
    · rcases List.mem_cons.1 hc with rfl | hc
      · exact bnd_next hx
      · exact ih hS c hc
    · split at hc
      · rcases List.mem_cons.1 hc with rfl | hc
        · exact bnd_more hx hq k
        · exact bnd_next (hS c hc)
      · rcases List.mem_cons.1 hc with rfl | hc
        · exact bnd_more (bnd_zero n) hq k
        · rcases List.mem_cons.1 hc with rfl | hc
          · exact bnd_next hx
          · exact bnd_next (hS c hc)
/-- Of messages: those of a symbol. -/
def pairsF (sym : Int) (l : List (Int × KC × Int)) : List (KC × Int) := (l.filter fun m => decide (m.1 = sym)).map (·.2)
end Go.Proofs.YtmkcooamgojbpaaDoor.Counts

/- Ranging over a map in memory: whichever entry comes, each once. -/
namespace Go.Proofs.YtmkcooamgojbpaaDoor.Mp
open Go.RowKit Go.ChangeMaps Go.Proofs.YtmkcooamgojbpaaDoor.Kit Go.Proofs.YtmkcooamgojbpaaDoor.Blk

section
variable {P : Program} {κ ν : Type} {w w' : World} {r b : Nat} {ke : κ → Value} {ve : ν → Value} {l left : List (κ × ν)} {T K E : TypeId}
/-- An iterator in block r over the map of block b: 'left' has yet to come. -/
def IterIs (w : World) (r b : Nat) (ke : κ → Value) (ve : ν → Value) (l left : List (κ × ν)) : Prop :=
  ∃ es clock seen, w.heap[b]? = some (.map es clock) ∧ es.toList.map pr = l.map (en ke ve) ∧ (es.toList.map (·.born)).Nodup ∧ (∀ x ∈ es.toList, x.born < clock) ∧
    w.heap[r]? = some (.mapIter (some b) clock seen clock) ∧ (leftOf es seen).toList.map pr = left.map (en ke ve)
theorem IterIs.map (h : IterIs w r b ke ve l left) : MapIs w b ke ve l := by
  obtain ⟨es, clock, seen, h1, h2, h3, h4, _⟩ := h
  exact ⟨es, clock, h1, h2, h3, h4⟩
theorem IterIs.same (h : IterIs w r b ke ve l left) (hb : w'.heap[b]? = w.heap[b]?) (hr : w'.heap[r]? = w.heap[r]?) : IterIs w' r b ke ve l left := by
  obtain ⟨es, clock, seen, h1, h2, h3, h4, h5, h6⟩ := h
  exact ⟨es, clock, seen, hb.trans h1, h2, h3, h4, hr.trans h5, h6⟩
theorem IterIs.lt (h : IterIs w r b ke ve l left) : r < w.heap.size := by
  obtain ⟨es, clock, seen, h1, h2, h3, h4, h5, h6⟩ := h
  exact (Array.getElem?_eq_some_iff.1 h5).1
theorem IterIs.ne (h : IterIs w r b ke ve l left) : r ≠ b := by
  rintro rfl
  obtain ⟨es, clock, seen, h1, h2, h3, h4, h5, h6⟩ := h
  rw [h1] at h5; cases h5
theorem IterIs.not_blk {B U : Nat} {cs : Array Value} (h : IterIs w r b ke ve l left) (hB : Blk w B cs U) : r ≠ B := by
  rintro rfl
  obtain ⟨es, clock, seen, h1, h2, h3, h4, h5, h6⟩ := h
  rw [show w.heap[r]? = _ from hB] at h5; cases h5
theorem IterIs.chg {n d : Nat} (h : IterIs w r b ke ve l left) (hc : Chg n d w w') (hb : b < n) (hr : r < n) (hbd : b ≠ d) (hrd : r ≠ d) : IterIs w' r b ke ve l left :=
  h.same (hc.block b hb hbd) (hc.block r hr hrd)
theorem IterIs.below (h : IterIs w r b ke ve l left) (hb : Below w.heap.size w w') : IterIs w' r b ke ve l left := h.same (hb.block b h.map.lt) (hb.block r h.lt)
theorem IterIs.alloc (h : IterIs w r b ke ve l left) (o : Obj) : IterIs (w.alloc o) r b ke ve l left := h.below ((Below.refl _ _).alloc (Nat.le_refl _) o)
theorem IterIs.drew (h : IterIs w r b ke ve l left) : IterIs w.drew r b ke ve l left := h
theorem IterIs.apart (h : IterIs w r b ke ve l left) (a : Addr) (v : Value) (hb : a.block ≠ b) (hr : a.block ≠ r) : IterIs (w.setCell a v) r b ke ve l left :=
  h.same (Below.heap_setCell _ _ _ _ (fun e => hb e.symm)) (Below.heap_setCell _ _ _ _ (fun e => hr e.symm))

theorem run_range (h : MapIs w b ke ve l) (hT : P.underlying T = some (.map K E)) :
    ∃ o, (Instr.range T (.map (some b))).run P w = .ok (.pointer (some ⟨w.heap.size, 0, none⟩)) (w.alloc o) ∧ IterIs (w.alloc o) w.heap.size b ke ve l l := by
  have hlt := h.lt
  obtain ⟨es, clock, hb, hp, hn, hc⟩ := h
  refine ⟨.mapIter (some b) clock #[] clock, ?_, ⟨es, clock, #[], (Below.heap_alloc w _ b hlt).trans hb, hp, hn, hc, heap_alloc_new w _, ?_⟩⟩
  · simp [Instr.range, run_underlying hT, getObj, Sem.run, hb, newObj]
  · have e : (leftOf es #[]).toList = es.toList := by
      simp only [leftOf, Array.toList_filter]
      exact List.filter_eq_self.2 (fun x _ => by simp)
    rw [e]; exact hp

theorem map_split {α β γ : Type} {f : α → γ} {g : β → γ} : ∀ {a : List α} {x : α} {c : List α} {left : List β}, (a ++ x :: c).map f = left.map g → ∃ l1 p l2, left = l1 ++ p :: l2 ∧ a.map f = l1.map g ∧ f x = g p ∧ c.map f = l2.map g := by
  intro a
  induction a with
  | nil =>
    intro x c left h
    cases left with
    | nil => simp at h
    | cons p l2 =>
      simp only [List.nil_append, List.map_cons, List.cons.injEq] at h
      exact ⟨[], p, l2, rfl, rfl, h.1, h.2⟩
  | cons y a ih =>
    intro x c left h
    cases left with
    | nil => simp at h
    | cons p left =>
      simp only [List.cons_append, List.map_cons, List.cons.injEq] at h
      obtain ⟨l1, q, l2, h1, h2, h3, h4⟩ := ih h.2
      exact ⟨p :: l1, q, l2, by rw [h1]; rfl, by simp [h.1, h2], h3, h4⟩

/-- One step: nothing is left, or one that is left comes. -/
theorem run_next (h : IterIs w r b ke ve l left) (ty : TypeId) :
    (left = [] ∧ (Instr.next (.pointer (some ⟨r, 0, none⟩)) false ty).run P w = .ok (.tuple #[.bool false]) w) ∨
    ∃ l1 p l2 w', left = l1 ++ p :: l2 ∧ (Instr.next (.pointer (some ⟨r, 0, none⟩)) false ty).run P w = .ok (.tuple #[.bool true, ke p.1, ve p.2]) w' ∧
      (Instr.entry (.pointer (some ⟨r, 0, none⟩))).run P w' = .ok (.tuple #[ke p.1, ve p.2]) w' ∧ IterIs w' r b ke ve l (l1 ++ l2) ∧ Chg w.heap.size r w w' ∧ w'.heap.size = w.heap.size := by
  have hlt := h.lt
  have hne := h.ne
  obtain ⟨es, clock, seen, hb, hp, hn, hc, hr, hl⟩ := h
  rcases run_next_at (P := P) w ty r b clock clock seen es clock hr hb hc (Nat.le_refl _) with ⟨h0, hrun⟩ | ⟨e, he, w1, hw1, hrun⟩
  · left
    refine ⟨?_, hrun⟩
    have h1 : (leftOf es seen).toList = [] := by rw [← List.length_eq_zero_iff]; simpa using h0
    rw [h1] at hl
    cases left with
    | nil => rfl
    | cons p left => simp at hl
  · right
    have hes : e ∈ es.toList := by
      simp only [leftOf, Array.toList_filter, List.mem_filter] at he
      exact he.1
    obtain ⟨a, c, hac⟩ := List.append_of_mem he
    rw [hac] at hl
    obtain ⟨l1, p, l2, h1, h2, h3, h4⟩ := map_split hl
    have hk : e.key = ke p.1 := congrArg Prod.fst h3
    have hv : e.val = ve p.2 := congrArg Prod.snd h3
    have hb1 : w1.heap[b]? = some (.map es clock) := by rcases hw1 with rfl | rfl <;> exact hb
    have hs1 : w1.heap.size = w.heap.size := by rcases hw1 with rfl | rfl <;> rfl
    have hbn : (setBlock w1 r (.mapIter (some b) clock (seen.push e.born) clock)).heap[b]? = some (.map es clock) := by
      rw [(chg_set w1 r (b + 1) _).block b (by omega) (Ne.symm hne)]; exact hb1
    have hrn := set_at w1 r (.mapIter (some b) clock (seen.push e.born) clock) (by omega)
    have hent := run_entry_at (P := P) _ r b clock seen es clock e hrn hbn hes hn
    rw [hk, hv] at hrun hent
    refine ⟨l1, p, l2, _, h1, hrun, hent, ⟨es, clock, seen.push e.born, hbn, hp, hn, hc, hrn, ?_⟩, ?_, by simp [setBlock, hs1]⟩
    · have hnl : ((leftOf es seen).toList.map (·.born)).Nodup := by
        simp only [leftOf, Array.toList_filter]
        exact List.Nodup.sublist (List.filter_sublist.map _) hn
      have hf : (leftOf es (seen.push e.born)).toList = (leftOf es seen).toList.filter (fun x => x.born != e.born) := by
        simp only [leftOf, Array.toList_filter, List.filter_filter]
        apply List.filter_congr
        intro x _
        rw [Array.contains_push]
        cases hq : (x.born == e.born) <;> simp_all [bne]
      rw [hf, hac]
      rw [hac, List.map_append, List.map_cons, List.nodup_append, List.nodup_cons] at hnl
      obtain ⟨n1, ⟨n2, n3⟩, n4⟩ := hnl
      have fa : a.filter (fun x => x.born != e.born) = a := List.filter_eq_self.2 (fun x hx => by
        have := n4 _ (List.mem_map_of_mem hx) _ List.mem_cons_self
        simpa using this)
      have fc : c.filter (fun x => x.born != e.born) = c := List.filter_eq_self.2 (fun x hx => by
        have : x.born ≠ e.born := fun hq => n2 (by rw [← hq]; exact List.mem_map_of_mem hx)
        simpa using this)
      rw [List.filter_append, List.filter_cons, fa, fc]
      simp [h2, h4]
    · have h5 : Chg w.heap.size r w w1 := by rcases hw1 with rfl | rfl; exact Chg.refl _ _ _; exact (Chg.refl _ _ _).drew
      exact h5.trans (chg_set _ _ _ _)
end
end Go.Proofs.YtmkcooamgojbpaaDoor.Mp

/- A map of counts in memory. -/
namespace Go.Proofs.YtmkcooamgojbpaaDoor.Counts
open Go.RowKit Go.Proofs.YtmkcooamgojbpaaDoor.Kit Go.Proofs.YtmkcooamgojbpaaDoor.Blk Go.Proofs.YtmkcooamgojbpaaDoor.Mp
set_option linter.unusedVariables false

def kk (k : KC) : Value := .agg #[.int .i64 k.1, .int .i64 k.2]
theorem eq_int (d : Nat) (n m : Int) (w : World) : (Op.equalIn (d + 1) 3 (.int .i64 n) (.int .i64 m)).run Tryd.prog w = .ok (n == m) w := by
  simp [Op.equalIn, run_underlying Tryd.underlying3]
theorem cInt : Tryd.prog.cellsOf 3 = 1 := by kernel_rfl
theorem kk_eql (w : World) (a b : KC) : (Op.equal 171 (kk a) (kk b)).run Tryd.prog w = .ok (decide (a = b)) w := by
  obtain ⟨a1, a2⟩ := a
  obtain ⟨b1, b2⟩ := b
  have e : decide (((a1, a2) : KC) = (b1, b2)) = (decide (a1 = b1) && decide (a2 = b2)) := by
    rw [← Bool.decide_and, decide_eq_decide]; exact Prod.mk.injEq _ _ _ _ ▸ Iff.rfl
  rw [e]
  obtain ⟨i, hi⟩ : ∃ i, Tryd.prog.info? 3 = some i := Option.isSome_iff_exists.1 (by kernel_rfl)
  have h := run_equalIn_array (P := Tryd.prog) (w := w) 9999 #[.int .i64 a1, .int .i64 a2] #[.int .i64 b1, .int .i64 b2] Tryd.underlying171 hi
  have he : ∀ (n m : Int) (w : World), (Op.equalIn 9999 3 (.int .i64 n) (.int .i64 m)).run Tryd.prog w = .ok (n == m) w := fun n m w => eq_int 9998 n m w
  rw [cInt] at h
  simp only [Nat.reduceAdd] at h
  unfold kk Op.equal Op.maxDepth
  cases h1 : (a1 == b1) <;> cases h2 : (a2 == b2)
  all_goals
    have d1 : decide (a1 = b1) = _ := h1
    have d2 : decide (a2 = b2) = _ := h2
    rw [d1, d2]
    simp [h, Op.eqItems, List.range, List.range.loop, part, he, h1, h2]
theorem kk_check (w : World) (em : Bool) (k : KC) : (Instr.checkKey em 10000 171 (kk k)).run Tryd.prog w = .ok () w := by kernel_rfl
theorem kk_stays (w : World) (k : KC) : (Instr.keyThatStays (kk k) (kk k)).run Tryd.prog w = .ok (kk k) w := by
  have h : Instr.sameBits 10000 (kk k) (kk k) = true := by
    unfold kk
    simp [Instr.sameBits]
  simp [Instr.keyThatStays, h]
theorem kk_ok : KeyOK Tryd.prog 171 kk :=
  keyOK_asked kk Tryd.underlying171 (fun _ _ => rfl) kk_eql kk_check kk_stays
theorem zero_cnt (w : World) : (zeroValue 85).run Tryd.prog w = .ok (.agg #[.int .i64 0, .int .i64 0, .int .i64 0, .int .i64 0]) w := by kernel_rfl
theorem look_c {W : World} {b : Nat} {A : List (KC × Cnt)} (h : MapIs W b kk cv A) (k : KC) :
    (Instr.lookup 170 (.map (some b)) (.agg #[.int .i64 k.1, .int .i64 k.2]) false).run Tryd.prog W = .ok (.agg ((mget k A).getD cnt0).cells) W := by
  have := run_look h kk_ok Tryd.underlying170 (zero_cnt W) k false
  cases e : mget k A with
  | none => rw [e] at this; exact this
  | some a => rw [e] at this; exact this
theorem put_c {W : World} {b : Nat} {A : List (KC × Cnt)} (h : MapIs W b kk cv A) (k : KC) (c : Cnt) :
    ∃ W', (Instr.mapUpdate 170 (.map (some b)) (.agg #[.int .i64 k.1, .int .i64 k.2]) (.agg #[.int .i64 c.kind, .int .i64 c.code, .int .i64 c.many, .int .i64 c.qty])).run Tryd.prog W = .ok () W' ∧ MapIs W' b kk cv (mput k c A) ∧ Chg W.heap.size b W W' ∧ W'.heap.size = W.heap.size :=
  run_put h kk_ok Tryd.underlying170 k c
end Go.Proofs.YtmkcooamgojbpaaDoor.Counts
